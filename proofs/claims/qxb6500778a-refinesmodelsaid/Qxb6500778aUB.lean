import Derived.Test.Qxb6500778aU9
namespace Go.Proofs.Qxb6500778a
open Go.RowKit

section
variable {w w' : World} {b : Nat} {M : MN} {vr va : Nat → Value}
theorem MX.lt (h : MX w b M vr va) : b < w.heap.size := World.block_lt_of_cell? _ _ (h.ma.r 0 (by omega))
theorem MX.ft_lt (h : MX w b M vr va) {k : Nat} (hk : MFt b vr va k) : k < w.heap.size := by
  rcases hk with rfl | ⟨d, hd, hk | hk⟩
  · exact h.lt
  · exact ((h.ma.ro d hd).lt k hk).2
  · exact ((h.ma.ao d hd).lt k hk).2
/-- the routes of device d lie in another row now -/
theorem MX.setR (h : MX w b M vr va) {d : Nat} (hd : d < 16) (e : Ex (fun k => some k = (vr d).ownBlock) w w') {L : List Rt} {v : Value} (ho : w'.ownsRow 0 77 3 v L.length (flatR L)) (hv : ∀ k, v.ownBlock = some k → (vr d).ownBlock = some k ∨ w.heap.size ≤ k) :
    MX (w'.setCell ⟨b, 0 + d, none⟩ v) b { M with rt := upd M.rt d L } (upd vr d v) va := by
  have hb : ¬ some b = (vr d).ownBlock := fun z => by have := h.rb d hd b z.symm; omega
  have hc := e.cell hb (h.ma.r d hd)
  have e2 : Ex (fun k => k = b) w' (w'.setCell ⟨b, 0 + d, none⟩ v) := (Ex.refl (fun k => k = b) w').set (p := b) rfl _
  have hbl := h.lt
  have hvb : ∀ k, v.ownBlock = some k → k ≠ b := fun k hk => by
    rcases hv k hk with z | z
    · exact h.rb d hd k z
    · omega
  refine ⟨⟨fun k hk => ?_, fun k hk => ?_, fun k hk => ?_, fun k f hk hf => ?_, fun k hk => ?_, fun k hk => ?_⟩, fun j => by rw [set_frozen]; exact (e.frozen hb hbl).trans (h.fz j), fun k hk j hj => ?_, h.ab, fun x y k hx hy h1 h2 => ?_, h.aa, fun x y k hx hy h1 h2 => ?_⟩
  · rw [upd_get]
    by_cases hkd : k = d
    · subst hkd; rw [if_pos rfl]; exact World.cell?_setCell_same _ _ _ hc
    · rw [if_neg hkd]; exact set_any _ b _ _ _ hc (e.cell hb (h.ma.r k hk)) (by omega)
  · exact set_any _ b _ _ _ hc (e.cell hb (h.ma.a k hk)) (by omega)
  · exact set_any _ b _ _ _ hc (e.cell hb (h.ma.u k hk)) (by omega)
  · exact set_any _ b _ _ _ hc (e.cell hb (h.ma.l k f hk hf)) (by omega)
  · show World.ownsRow _ _ _ _ (upd vr d v k) (upd M.rt d L k).length (flatR (upd M.rt d L k))
    rw [upd_get, upd_get]
    by_cases hkd : k = d
    · subst hkd; rw [if_pos rfl, if_pos rfl]; exact own_kept ho e2 (fun j hj (z : j = b) => by have := hvb j hj; omega)
    · rw [if_neg hkd, if_neg hkd]
      exact own_kept (own_kept (h.ma.ro k hk) e (fun j hj z => hkd (h.rr k d j hk hd hj z.symm))) e2 (fun j hj (z : j = b) => by have := h.rb k hk j hj; omega)
  · exact own_kept (own_kept (h.ma.ao k hk) e (fun j hj z => h.ra d k j hd hk z.symm hj)) e2 (fun j hj (z : j = b) => by have := h.ab k hk j hj; omega)
  · rw [upd_get] at hj
    split at hj
    · exact hvb j hj
    · exact h.rb k hk j hj
  · rw [upd_get] at h1 h2
    by_cases hxd : x = d
    · rw [if_pos hxd] at h1
      by_cases hyd : y = d
      · rw [hxd, hyd]
      · rw [if_neg hyd] at h2
        rcases hv k h1 with z | z
        · exact absurd (h.rr y d k hy hd h2 z) hyd
        · have := ((h.ma.ro y hy).lt k h2).2; omega
    · rw [if_neg hxd] at h1
      by_cases hyd : y = d
      · rw [if_pos hyd] at h2
        rcases hv k h2 with z | z
        · exact absurd (h.rr x d k hx hd h1 z) hxd
        · have := ((h.ma.ro x hx).lt k h1).2; omega
      · rw [if_neg hyd] at h2
        exact h.rr x y k hx hy h1 h2
  · rw [upd_get] at h1
    by_cases hxd : x = d
    · rw [if_pos hxd] at h1
      rcases hv k h1 with z | z
      · exact h.ra d y k hd hy z h2
      · have := ((h.ma.ao y hy).lt k h2).2; omega
    · rw [if_neg hxd] at h1
      exact h.ra x y k hx hy h1 h2
/-- the ACL of device d lies in another row now -/
theorem MX.setA (h : MX w b M vr va) {d : Nat} (hd : d < 16) (e : Ex (fun k => some k = (va d).ownBlock) w w') {L : List Rl} {v : Value} (ho : w'.ownsRow 0 81 4 v L.length (flatA L)) (hv : ∀ k, v.ownBlock = some k → (va d).ownBlock = some k ∨ w.heap.size ≤ k) :
    MX (w'.setCell ⟨b, 0 + 16 + d, none⟩ v) b { M with ac := upd M.ac d L } vr (upd va d v) := by
  have hb : ¬ some b = (va d).ownBlock := fun z => by have := h.ab d hd b z.symm; omega
  have hc := e.cell hb (h.ma.a d hd)
  have e2 : Ex (fun k => k = b) w' (w'.setCell ⟨b, 0 + 16 + d, none⟩ v) := (Ex.refl (fun k => k = b) w').set (p := b) rfl _
  have hbl := h.lt
  have hvb : ∀ k, v.ownBlock = some k → k ≠ b := fun k hk => by
    rcases hv k hk with z | z
    · exact h.ab d hd k z
    · omega
  refine ⟨⟨fun k hk => ?_, fun k hk => ?_, fun k hk => ?_, fun k f hk hf => ?_, fun k hk => ?_, fun k hk => ?_⟩, fun j => by rw [set_frozen]; exact (e.frozen hb hbl).trans (h.fz j), h.rb, fun k hk j hj => ?_, h.rr, fun x y k hx hy h1 h2 => ?_, fun x y k hx hy h1 h2 => ?_⟩
  · exact set_any _ b _ _ _ hc (e.cell hb (h.ma.r k hk)) (by omega)
  · rw [upd_get]
    by_cases hkd : k = d
    · subst hkd; rw [if_pos rfl]; exact World.cell?_setCell_same _ _ _ hc
    · rw [if_neg hkd]; exact set_any _ b _ _ _ hc (e.cell hb (h.ma.a k hk)) (by omega)
  · exact set_any _ b _ _ _ hc (e.cell hb (h.ma.u k hk)) (by omega)
  · exact set_any _ b _ _ _ hc (e.cell hb (h.ma.l k f hk hf)) (by omega)
  · exact own_kept (own_kept (h.ma.ro k hk) e (fun j hj z => h.ra k d j hk hd hj z.symm)) e2 (fun j hj (z : j = b) => by have := h.rb k hk j hj; omega)
  · show World.ownsRow _ _ _ _ (upd va d v k) (upd M.ac d L k).length (flatA (upd M.ac d L k))
    rw [upd_get, upd_get]
    by_cases hkd : k = d
    · subst hkd; rw [if_pos rfl, if_pos rfl]; exact own_kept ho e2 (fun j hj (z : j = b) => by have := hvb j hj; omega)
    · rw [if_neg hkd, if_neg hkd]
      exact own_kept (own_kept (h.ma.ao k hk) e (fun j hj z => hkd (h.aa k d j hk hd hj z.symm))) e2 (fun j hj (z : j = b) => by have := h.ab k hk j hj; omega)
  · rw [upd_get] at hj
    split at hj
    · exact hvb j hj
    · exact h.ab k hk j hj
  · rw [upd_get] at h1 h2
    by_cases hxd : x = d
    · rw [if_pos hxd] at h1
      by_cases hyd : y = d
      · rw [hxd, hyd]
      · rw [if_neg hyd] at h2
        rcases hv k h1 with z | z
        · exact absurd (h.aa y d k hy hd h2 z) hyd
        · have := ((h.ma.ao y hy).lt k h2).2; omega
    · rw [if_neg hxd] at h1
      by_cases hyd : y = d
      · rw [if_pos hyd] at h2
        rcases hv k h2 with z | z
        · exact absurd (h.aa x d k hx hd h1 z) hxd
        · have := ((h.ma.ao x hx).lt k h1).2; omega
      · rw [if_neg hyd] at h2
        exact h.aa x y k hx hy h1 h2
  · rw [upd_get] at h2
    by_cases hyd : y = d
    · rw [if_pos hyd] at h2
      rcases hv k h2 with z | z
      · exact h.ra x d k hx hd h1 z
      · have := ((h.ma.ro x hx).lt k h1).2; omega
    · rw [if_neg hyd] at h2
      exact h.ra x y k hx hy h1 h2
end
end Go.Proofs.Qxb6500778a
