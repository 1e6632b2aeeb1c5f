import Derived.Test.Qxb6500784aCs
namespace Go.Proofs.Qxb6500784a
open Go.RowKit

theorem nodup_repl {a c : List Value} {v v' : Value} (h : (blks (a ++ v :: c)).Nodup) (hv : ∀ j, v'.ownBlock = some j → v.ownBlock = some j ∨ j ∉ blks (a ++ v :: c)) : (blks (a ++ v' :: c)).Nodup := by
  rw [blks3] at h ⊢
  simp only [blks3, List.mem_append, Option.mem_toList] at hv
  obtain ⟨n1, n2, n3⟩ := List.nodup_append.1 h
  obtain ⟨m1, m2, m3⟩ := List.nodup_append.1 n2
  have key : ∀ j, v'.ownBlock = some j → j ∉ blks a ∧ j ∉ blks c := fun j hj => by
    rcases hv j hj with z | z
    · exact ⟨fun e => n3 j e j (List.mem_append_left _ (by simpa using z)) rfl, fun e => m3 j (by simpa using z) j e rfl⟩
    · exact ⟨fun e => z (.inl e), fun e => z (.inr (.inr e))⟩
  refine List.nodup_append.2 ⟨n1, List.nodup_append.2 ⟨by cases v'.ownBlock <;> simp, m2, fun x hx y hy e => ?_⟩, fun x hx y hy e => ?_⟩
  · subst e
    exact (key x (by simpa using hx)).2 hy
  · subst e
    rcases List.mem_append.1 hy with hy | hy
    · exact (key x (by simpa using hy)).1 hx
    · exact n3 x hx x (List.mem_append_right _ hy) rfl
/-- One of a part's lists grows. -/
theorem CV.grow {w w' : World} {T k : Nat} {f f' : Fl} {sw : List (Fl × List Value)} {p q : List Value} {v v' s : Value} {rp rq : List Row} {r r' : Row} (h : CV w T k f sw (p ++ v :: q) s) (hr : f.rows = rp ++ r :: rq) (hr' : f'.rows = rp ++ r' :: rq) (hl : rp.length = p.length)
    (hg : w.grownBy w' v.ownBlock) (hown : w'.ownsRow 0 r'.e r'.k v' r'.n r'.xs) (hat : ∀ j, v'.ownBlock = some j → v.ownBlock = some j ∨ w.heap.size ≤ j) : CV w' T k f' sw (p ++ v' :: q) s := by
  have ex : Ex (fun j => v.ownBlock = some j) w w' := Ex.ofGrown hg fun j e => e.symm
  have hlt : ∀ j, j ∈ blks (p ++ v :: q ++ s :: sw.flatMap (·.2)) → j < w.heap.size := fun j hj => h.lt hj
  have nd := h.nd
  rw [List.append_assoc, List.cons_append] at nd hlt
  have nd0 := nd
  rw [blks3] at nd
  obtain ⟨n1, n2, n3⟩ := List.nodup_append.1 nd
  obtain ⟨m1, m2, m3⟩ := List.nodup_append.1 n2
  have far : ∀ j, j ∈ blks p ∨ j ∈ blks (q ++ s :: sw.flatMap (·.2)) → v.ownBlock ≠ some j := fun j hj e => by
    rcases hj with hj | hj
    · exact n3 j hj j (List.mem_append_left _ (by simpa using e)) rfl
    · exact m3 j (by simpa using e) j hj rfl
  refine ⟨⟨?_, fun i x y hx hy => ?_⟩, own_kept h.sl ex fun j hj => far j (.inr (mem_blks.2 ⟨s, by simp, hj⟩)), fun z hz => (h.ea z hz).keep ex fun j hj => ?_, ?_⟩
  · have := h.fl.1
    rw [hr] at this
    rw [hr']
    simpa using this
  · rw [hr'] at hx
    by_cases e1 : i < p.length
    · rw [List.getElem?_append_left (by omega)] at hx
      rw [List.getElem?_append_left e1] at hy
      have h0 := h.fl.2 i x y (by rw [hr, List.getElem?_append_left (by omega)]; exact hx) (by rw [List.getElem?_append_left e1]; exact hy)
      exact own_kept h0 ex fun j hj => far j (.inl (mem_blks.2 ⟨y, List.mem_of_getElem? hy, hj⟩))
    · rw [List.getElem?_append_right (by omega)] at hx
      rw [List.getElem?_append_right (by omega)] at hy
      by_cases e2 : i = p.length
      · rw [e2, hl, Nat.sub_self] at hx
        rw [e2, Nat.sub_self] at hy
        simp at hx hy
        subst hx hy
        exact hown
      · obtain ⟨d, hd⟩ : ∃ d, i - p.length = d + 1 := ⟨i - p.length - 1, by omega⟩
        rw [hl, hd, List.getElem?_cons_succ] at hx
        rw [hd, List.getElem?_cons_succ] at hy
        have h0 := h.fl.2 i x y (by rw [hr, List.getElem?_append_right (by omega), hl, hd, List.getElem?_cons_succ]; exact hx) (by rw [List.getElem?_append_right (by omega), hd, List.getElem?_cons_succ]; exact hy)
        exact own_kept h0 ex fun j hj => far j (.inr (mem_blks.2 ⟨y, List.mem_append_left _ (List.mem_of_getElem? hy), hj⟩))
  · obtain ⟨y, hy, ey⟩ := mem_blks.1 hj
    exact far j (.inr (mem_blks.2 ⟨y, List.mem_append_right _ (List.mem_cons_of_mem _ (List.mem_flatMap.2 ⟨z, hz, hy⟩)), ey⟩))
  · rw [List.append_assoc, List.cons_append]
    refine nodup_repl nd0 fun j hj => (hat j hj).imp id fun z e => ?_
    have := hlt j e
    omega
theorem grow_sub {w : World} {p q c : List Value} {v v' : Value} (hat : ∀ j, v'.ownBlock = some j → v.ownBlock = some j ∨ w.heap.size ≤ j) {j : Nat} (hj : j ∈ blks (p ++ v' :: q ++ c)) : j ∈ blks (p ++ v :: q ++ c) ∨ w.heap.size ≤ j := by
  obtain ⟨y, hy, ey⟩ := mem_blks.1 hj
  simp only [List.mem_append, List.mem_cons] at hy
  rcases hy with (hy | rfl | hy) | hy
  · exact .inl (mem_blks.2 ⟨y, by simp [hy], ey⟩)
  · exact (hat j ey).imp (fun z => mem_blks.2 ⟨v, by simp, z⟩) id
  · exact .inl (mem_blks.2 ⟨y, by simp [hy], ey⟩)
  · exact .inl (mem_blks.2 ⟨y, by simp [hy], ey⟩)
end Go.Proofs.Qxb6500784a
