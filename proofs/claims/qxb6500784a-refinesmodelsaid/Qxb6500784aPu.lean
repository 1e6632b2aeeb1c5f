import Derived.Test.Qxb6500784aLn
namespace Go.Proofs.Qxb6500784a
open Go.RowKit

theorem modify_comm {α : Type} (xs : Array α) {i j : Nat} (h : i ≠ j) (f g : α → α) : (xs.modify i f).modify j g = (xs.modify j g).modify i f := by
  apply Array.ext_getElem?
  intro k
  simp only [Array.getElem?_modify]
  by_cases e1 : i = k
  · subst e1
    have h2 : ¬ j = i := fun e => h e.symm
    simp [h2]
  · by_cases e2 : j = k
    · subst e2; simp [e1]
    · simp [e1, e2]
theorem setCell_comm (w : World) {a b : Addr} (h : a.block ≠ b.block) (u v : Value) : (w.setCell a u).setCell b v = (w.setCell b v).setCell a u := by
  simp only [World.setCell]
  rw [modify_comm _ h]
theorem setCells_comm {b g : Nat} (h : b ≠ g) (j : Nat) (u : Value) : ∀ (vs : List Value) (o : Nat) (w : World), (w.setCell ⟨b, j, none⟩ u).setCells g o vs = (w.setCells g o vs).setCell ⟨b, j, none⟩ u
  | [], _, _ => rfl
  | v :: r, o, w => by
    rw [World.setCells, World.setCells, setCell_comm w (a := ⟨b, j, none⟩) (b := ⟨g, o, none⟩) h, setCells_comm h j u r (o + 1)]
def setAll : List Value → Nat → List Value → List Value
  | xs, _, [] => xs
  | xs, o, v :: r => setAll (xs.set o v) (o + 1) r
theorem setAll_end : ∀ (U xs Z : List Value), Z.length = U.length → setAll (xs ++ Z) xs.length U = xs ++ U
  | [], xs, Z, h => by rw [List.eq_nil_of_length_eq_zero h]; rfl
  | v :: U, xs, z :: Z, h => by
    rw [setAll, List.set_append_right _ _ (Nat.le_refl _), Nat.sub_self, List.set_cons_zero]
    have := setAll_end U (xs ++ [v]) Z (by simpa using h)
    simp only [List.length_append, List.length_cons, List.length_nil, Nat.zero_add, List.append_assoc, List.singleton_append] at this
    exact this
  | v :: U, xs, [], h => by simp at h
theorem own_setCells {B e s g c n : Nat} : ∀ (vs : List Value) (o : Nat) (w : World) (xs : List Value), w.ownsRow B e s (.slice (some ⟨g, 0, none⟩) n c) n xs → (w.setCells g o vs).ownsRow B e s (.slice (some ⟨g, 0, none⟩) n c) n (setAll xs o vs)
  | [], _, _, _, h => h
  | v :: r, o, w, xs, h => by
    rw [World.setCells, setAll]
    exact own_setCells r (o + 1) _ _ (h.stored o v).1
/-- A checkpoint: the row with one more element, that is then written. -/
theorem CV.pushed {w w' : World} {T k : Nat} {f q : Fl} {sw : List (Fl × List Value)} {vs us : List Value} {s : Value} {g c : Nat} {Z : List Value} (h : CV w T k f sw vs s) (hg : w.grownBy w' s.ownBlock)
    (hown : w'.ownsRow 0 T k (.slice (some ⟨g, 0, none⟩) (sw.length + 1) c) (sw.length + 1) (sw.flatMap (fun p => p.1.lay p.2 nilS) ++ Z)) (hat : s.ownBlock = some g ∨ g = w.heap.size)
    (hq : FlV w q us) (hnd : (blks us).Nodup) (hdis : ∀ j, j ∈ blks us → j ∉ blks (vs ++ s :: sw.flatMap (·.2))) (hlen : ∀ p, p ∈ sw → (p.1.lay p.2 nilS).length = k) (hZ : Z.length = (q.lay us nilS).length) :
    CV (w'.setCells g (sw.length * k) (q.lay us nilS)) T k f (sw ++ [(q, us)]) vs (.slice (some ⟨g, 0, none⟩) (sw.length + 1) c) ∧ w.grownBy (w'.setCells g (sw.length * k) (q.lay us nilS)) s.ownBlock := by
  have ex2 : Ex (fun j => j = g) w' (w'.setCells g (sw.length * k) (q.lay us nilS)) := Ex.sets (S := fun j => j = g) rfl _ _ _ (Ex.refl _ _)
  have hg2 : w.grownBy (w'.setCells g (sw.length * k) (q.lay us nilS)) s.ownBlock :=
    ⟨ex2.os.trans hg.os, ex2.tape.trans hg.tape, ex2.output.trans hg.output, Nat.le_trans hg.size ex2.size, fun j hj hne => (ex2.block j (Nat.lt_of_lt_of_le hj hg.size) (fun e => by
      subst e
      rcases hat with z | z
      · exact hne z.symm
      · omega)).trans (hg.block j hj hne)⟩
  refine ⟨CV.push h hg2 ?_ (fun j hj => ?_) hq hnd hdis, hg2⟩
  · have := own_setCells (q.lay us nilS) (sw.length * k) w' _ hown
    rw [show sw.length * k = (sw.flatMap (fun p => p.1.lay p.2 nilS)).length from (flat_lenM _ k sw hlen).symm, setAll_end _ _ _ hZ] at this
    rw [show sw.length * k = (sw.flatMap (fun p => p.1.lay p.2 nilS)).length from (flat_lenM _ k sw hlen).symm]
    exact this
  · have e : g = j := by simpa [Value.ownBlock] using hj
    subst e
    exact hat.imp id fun z => by rw [z]; exact Nat.le_refl _
end Go.Proofs.Qxb6500784a
