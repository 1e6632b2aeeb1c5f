import Derived.Test.Qxb6500778aU7
namespace Go.Proofs.Qxb6500778a
open Go.RowKit

/-- A working copy of a configuration in a block of its own: its rows are its own and apart. -/
structure MX (w : World) (b : Nat) (M : MN) (vr va : Nat → Value) : Prop where
  ma : MA w b 0 M vr va
  fz : ∀ j, w.frozen? ⟨b, j, none⟩ = false
  rb : ∀ d, d < 16 → ∀ k, (vr d).ownBlock = some k → k ≠ b
  ab : ∀ d, d < 16 → ∀ k, (va d).ownBlock = some k → k ≠ b
  rr : ∀ d d' k, d < 16 → d' < 16 → (vr d).ownBlock = some k → (vr d').ownBlock = some k → d = d'
  aa : ∀ d d' k, d < 16 → d' < 16 → (va d).ownBlock = some k → (va d').ownBlock = some k → d = d'
  ra : ∀ d d' k, d < 16 → d' < 16 → (vr d).ownBlock = some k → (va d').ownBlock = some k → False
theorem set_any (w : World) (b i j : Nat) (v : Value) {u : Value} (hu : w.cell? ⟨b, i, none⟩ = some u) {x : Value} (hx : w.cell? ⟨b, j, none⟩ = some x) (h : j ≠ i) : (w.setCell ⟨b, i, none⟩ v).cell? ⟨b, j, none⟩ = some x := by
  rw [set_at _ _ _ _ _ _ hu, if_neg h]; exact hx
theorem MX.setU {w : World} {b : Nat} {M : MN} {vr va : Nat → Value} (h : MX w b M vr va) {d : Nat} (hd : d < 16) (x : Bool) : MX (w.setCell ⟨b, 0 + 32 + d, none⟩ (.bool x)) b { M with up := upd M.up d x } vr va := by
  have hc := h.ma.u d hd
  have e2 : Ex (fun k => k = b) w (w.setCell ⟨b, 0 + 32 + d, none⟩ (.bool x)) := (Ex.refl (fun k => k = b) w).set (p := b) rfl _
  refine ⟨⟨fun k hk => ?_, fun k hk => ?_, fun k hk => ?_, fun k f hk hf => ?_, fun k hk => ?_, fun k hk => ?_⟩, fun j => by rw [set_frozen]; exact h.fz j, h.rb, h.ab, h.rr, h.aa, h.ra⟩
  · exact set_any w b _ _ _ hc (h.ma.r k hk) (by omega)
  · exact set_any w b _ _ _ hc (h.ma.a k hk) (by omega)
  · show _ = some (Value.bool (upd M.up d x k))
    rw [upd_get]
    by_cases hkd : k = d
    · subst hkd; rw [if_pos rfl]; exact World.cell?_setCell_same _ _ _ hc
    · rw [if_neg hkd]; exact set_any w b _ _ _ hc (h.ma.u k hk) (by omega)
  · exact set_any w b _ _ _ hc (h.ma.l k f hk hf) (by omega)
  · exact own_kept (h.ma.ro k hk) e2 (fun j hj (z : j = b) => by have := h.rb k hk j hj; omega)
  · exact own_kept (h.ma.ao k hk) e2 (fun j hj (z : j = b) => by have := h.ab k hk j hj; omega)
theorem MX.setK {w : World} {b : Nat} {M : MN} {vr va : Nat → Value} (h : MX w b M vr va) {d e : Nat} (hd : d < 16) (he : e < 16) (x : Bool) : MX (w.setCell ⟨b, 0 + 48 + (d * 16 + e), none⟩ (.bool x)) b { M with lk := upd M.lk d (upd (M.lk d) e x) } vr va := by
  have hc := h.ma.l d e hd he
  have e2 : Ex (fun k => k = b) w (w.setCell ⟨b, 0 + 48 + (d * 16 + e), none⟩ (.bool x)) := (Ex.refl (fun k => k = b) w).set (p := b) rfl _
  refine ⟨⟨fun k hk => ?_, fun k hk => ?_, fun k hk => ?_, fun k f hk hf => ?_, fun k hk => ?_, fun k hk => ?_⟩, fun j => by rw [set_frozen]; exact h.fz j, h.rb, h.ab, h.rr, h.aa, h.ra⟩
  · exact set_any w b _ _ _ hc (h.ma.r k hk) (by omega)
  · exact set_any w b _ _ _ hc (h.ma.a k hk) (by omega)
  · exact set_any w b _ _ _ hc (h.ma.u k hk) (by omega)
  · show _ = some (Value.bool (upd M.lk d (upd (M.lk d) e x) k f))
    rw [upd_get]
    by_cases hkd : k = d
    · subst hkd
      rw [if_pos rfl, upd_get]
      by_cases hfe : f = e
      · subst hfe; rw [if_pos rfl]; exact World.cell?_setCell_same _ _ _ hc
      · rw [if_neg hfe]; exact set_any w b _ _ _ hc (h.ma.l k f hk hf) (by omega)
    · rw [if_neg hkd]; exact set_any w b _ _ _ hc (h.ma.l k f hk hf) (by omega)
  · exact own_kept (h.ma.ro k hk) e2 (fun j hj (z : j = b) => by have := h.rb k hk j hj; omega)
  · exact own_kept (h.ma.ao k hk) e2 (fun j hj (z : j = b) => by have := h.ab k hk j hj; omega)
end Go.Proofs.Qxb6500778a
