import Derived.Test.Qxb6500777aObs
namespace Go.Proofs.Qxb6500777a

/-! ### Plain of ObservationsOnly -/
section
variable {best : Nat → Int} {W1 W2 : Nat → Tgt} {X Y : Nat → Int}
theorem look_of {t : Trk} {A B : Tgt} {g : Int} (h : lookP trk0 A g = lookP trk0 B g) : lookP t A g = lookP t B g := by
  unfold lookP at *
  simp only [trk0, Trk.mk.injEq, true_and, and_true] at h
  obtain ⟨h1, h2, h3, h4⟩ := h
  rw [h1, h2, h3, h4]
theorem obs_w (h : ∀ t, t < 112 → 0 < best t → lookP trk0 (W1 t) (best t) = lookP trk0 (W2 t) (best t)) {s : Slt} (hs : SltOk s) : obsS best W1 X Y s = obsS best W2 X Y s := by
  unfold obsS
  split
  · split
    · next hb =>
      unfold refreshP
      rw [look_of (h _ (by have := hs.tg; omega) hb)]
    · rfl
  · rfl
theorem ph1_w (h : ∀ t, t < 112 → 0 < best t → lookP trk0 (W1 t) (best t) = lookP trk0 (W2 t) (best t)) {T : Tbl} (hT : ∀ k, k < 64 → SltOk (T.sl k)) : ∀ n, n ≤ 64 → ph1 best W1 X Y T n = ph1 best W2 X Y T n
  | 0, _ => rfl
  | n + 1, hn => by
    rw [ph1, ph1, ph1_w h hT n (by omega)]
    have hs : (ph1 best W2 X Y T n).sl n = T.sl n := by rw [ph1_sl, if_neg (by omega)]
    rw [hs, obs_w h (hT n (by omega))]
theorem fr_w (h : ∀ t, t < 112 → 0 < best t → lookP trk0 (W1 t) (best t) = lookP trk0 (W2 t) (best t)) (hb : ∀ t, 0 ≤ best t) {T : Tbl} : ∀ n, n ≤ 112 → frL best W1 T n = frL best W2 T n
  | 0, _ => rfl
  | n + 1, hn => by
    rw [frL, frL, fr_w h hb n (by omega)]
    split
    · rfl
    · next hc =>
      have : newC best W1 n = newC best W2 n := by
        unfold newC
        rw [h n (by omega) (by have := hb n; have : best n ≠ 0 := fun e => hc (.inl e); omega)]
      rw [this]
theorem tick_w (h : ∀ t, t < 112 → 0 < best t → lookP trk0 (W1 t) (best t) = lookP trk0 (W2 t) (best t)) (hb : ∀ t, 0 ≤ best t) {T A : Tbl} (hT : TInv T) (r : TickR best W1 X Y T A) : TickR best W2 X Y T A := by
  obtain ⟨T2, h1, h2⟩ := r
  rw [ph1_w h hT.ok 64 (Nat.le_refl _)] at h1
  rw [fr_w h hb 112 (Nat.le_refl _)] at h2
  exact ⟨T2, h1, h2⟩
end
/-- What a tick makes hangs on what is seen. -/
theorem tick_cong {b1 b2 : Nat → Int} (hb : ∀ t, t < 112 → b1 t = b2 t) {W : Nat → Tgt} {X Y : Nat → Int} {T A : Tbl} (hT : TInv T) (r : TickR b1 W X Y T A) : TickR b2 W X Y T A := by
  have e1 : ∀ n, n ≤ 64 → ph1 b1 W X Y T n = ph1 b2 W X Y T n := fun n => by
    induction n with
    | zero => exact fun _ => rfl
    | succ n ih =>
      intro hn
      rw [ph1, ph1, ih (by omega)]
      have hs : (ph1 b2 W X Y T n).sl n = T.sl n := by rw [ph1_sl, if_neg (by omega)]
      rw [hs]
      have : obsS b1 W X Y (T.sl n) = obsS b2 W X Y (T.sl n) := by
        unfold obsS
        rw [hb _ (by have := (hT.ok n (by omega)).tg; omega)]
      rw [this]
  have e2 : ∀ (S : Tbl) n, n ≤ 112 → frL b1 W S n = frL b2 W S n := fun S n => by
    induction n with
    | zero => exact fun _ => rfl
    | succ n ih =>
      intro hn
      rw [frL, frL, ih (by omega), hb n (by omega)]
      have : newC b1 W n = newC b2 W n := by unfold newC; rw [hb n (by omega)]
      rw [this]
  obtain ⟨T2, h1, h2⟩ := r
  rw [e1 64 (Nat.le_refl _)] at h1
  rw [e2 _ 112 (Nat.le_refl _)] at h2
  exact ⟨T2, h1, h2⟩
theorem obs_tick {D1 D2 : List Det} {W1 W2 : Nat → Tgt} {X Y : Nat → Int} {tm : Nat} (h : SameObs D1 D2 W1 W2 tm) {T A B : Tbl} (hT : TInv T) (r1 : TickR (fuseP D1 (tm : Int)) W1 X Y T A) (r2 : TickR (fuseP D2 (tm : Int)) W2 X Y T B) : A = B := by
  have a := tick_w (W2 := W2) (fun t ht hb => (h t ht).2 hb) (fun t => (fuse_rng D1 tm t).1) hT r1
  have b := tick_cong (b2 := fuseP D2 (tm : Int)) (fun t ht => (h t ht).1) hT a
  exact b.det r2
end Go.Proofs.Qxb6500777a
