import Derived.Test.Qxb6500775aTab
import Derived.Test.Qxb6500775aTabP
namespace Go.Proofs.Qxb6500775a
open Go.RowKit

/-- The tables in block b: the directions X, Y; the other cells hold numbers. -/
structure MT (w : World) (b : Nat) (X Y : Nat → Int) : Prop where
  x : ∀ s, s < 4096 → w.cell? ⟨b, s, none⟩ = some (.int .i64 (X s))
  y : ∀ s, s < 4096 → w.cell? ⟨b, 4096 + s, none⟩ = some (.int .i64 (Y s))
  z : ∀ j, j < 226 → ∃ v : Int, w.cell? ⟨b, 8192 + j, none⟩ = some (.int .i64 v)
  fr : ∀ j, w.frozen? ⟨b, j, none⟩ = false
theorem MT.below {w w' : World} {b : Nat} {X Y : Nat → Int} (h : MT w b X Y) (hb : Below w.heap.size w w') : MT w' b X Y :=
  ⟨fun s hs => cellKeep hb (h.x s hs), fun s hs => cellKeep hb (h.y s hs), fun j hj => by obtain ⟨v, hv⟩ := h.z j hj; exact ⟨v, cellKeep hb hv⟩, fun j => (hb.frozen (p := ⟨b, j, none⟩) (show b < w.heap.size from World.block_lt_of_cell? _ _ (h.x 0 (by omega)))).trans (h.fr j)⟩
theorem MT.setX {w : World} {b t : Nat} {X Y : Nat → Int} {v : Int} (h : MT w b X Y) (ht : t < 4096) : MT (w.setCell ⟨b, t, none⟩ (.int .i64 v)) b (upd X t v) Y := by
  refine ⟨fun s hs => ?_, fun s hs => ?_, fun j hj => ?_, fun j => by simpa [go_sem] using h.fr j⟩
  · by_cases e : s = t
    · subst e
      rw [World.cell?_setCell_same _ _ _ (h.x s hs), upd_same]
    · rw [World.cell?_setCell_other _ _ _ _ (by simp <;> omega), upd_other _ _ e]; exact h.x s hs
  · rw [World.cell?_setCell_other _ _ _ _ (by simp <;> omega)]; exact h.y s hs
  · obtain ⟨u, hu⟩ := h.z j hj
    exact ⟨u, by rw [World.cell?_setCell_other _ _ _ _ (by simp <;> omega)]; exact hu⟩
theorem MT.setY {w : World} {b t : Nat} {X Y : Nat → Int} {v : Int} (h : MT w b X Y) (ht : t < 4096) : MT (w.setCell ⟨b, 4096 + t, none⟩ (.int .i64 v)) b X (upd Y t v) := by
  refine ⟨fun s hs => ?_, fun s hs => ?_, fun j hj => ?_, fun j => by simpa [go_sem] using h.fr j⟩
  · rw [World.cell?_setCell_other _ _ _ _ (by simp <;> omega)]; exact h.x s hs
  · by_cases e : s = t
    · subst e
      rw [World.cell?_setCell_same _ _ _ (h.y s hs), upd_same]
    · rw [World.cell?_setCell_other _ _ _ _ (by simp <;> omega), upd_other _ _ e]; exact h.y s hs
  · obtain ⟨u, hu⟩ := h.z j hj
    exact ⟨u, by rw [World.cell?_setCell_other _ _ _ _ (by simp <;> omega)]; exact hu⟩
theorem MT.setZ {w : World} {b t : Nat} {X Y : Nat → Int} {v : Int} (h : MT w b X Y) (ht : t < 226) : MT (w.setCell ⟨b, 8192 + t, none⟩ (.int .i64 v)) b X Y := by
  refine ⟨fun s hs => ?_, fun s hs => ?_, fun j hj => ?_, fun j => by simpa [go_sem] using h.fr j⟩
  · rw [World.cell?_setCell_other _ _ _ _ (by simp <;> omega)]; exact h.x s hs
  · rw [World.cell?_setCell_other _ _ _ _ (by simp <;> omega)]; exact h.y s hs
  · by_cases e : j = t
    · subst e
      obtain ⟨u, hu⟩ := h.z j hj
      exact ⟨v, World.cell?_setCell_same _ _ _ hu⟩
    · obtain ⟨u, hu⟩ := h.z j hj
      exact ⟨u, by rw [World.cell?_setCell_other _ _ _ _ (by simp <;> omega)]; exact hu⟩
theorem MT.drew {w : World} {b : Nat} {X Y : Nat → Int} (h : MT w b X Y) : MT w.drew b X Y := ⟨h.x, h.y, h.z, h.fr⟩
theorem grown_refl (w : World) (row : Option Nat) : w.grownBy w row := ⟨rfl, rfl, rfl, Nat.le_refl _, fun _ _ _ => rfl⟩
theorem grown_set {w v : World} {b j : Nat} {u : Value} (h : w.grownBy v (some b)) : w.grownBy (v.setCell ⟨b, j, none⟩ u) (some b) :=
  ⟨h.os, h.tape, h.output, by simpa using h.size, fun k hk hn => (Below.heap_setCell v ⟨b, j, none⟩ u k (fun e => hn (by rw [e]))).trans (h.block k hk hn)⟩
/-- The remainder of a turn, by a mask. -/
theorem and4095 (n : Int) : bits .and .i64 n 4095 = n % 4096 := by
  have hm : (BitVec.ofInt 64 4095).toNat = 2 ^ 12 - 1 := by decide
  have key : (BitVec.ofInt 64 n &&& BitVec.ofInt 64 4095).toNat = (n % ((2 ^ 64 : Nat) : Int)).toNat % 2 ^ 12 := by
    rw [BitVec.toNat_and, BitVec.toNat_ofInt, hm, Nat.and_two_pow_sub_one_eq_mod]
  show IntKind.i64.wrap ((BitVec.ofInt 64 n &&& BitVec.ofInt 64 4095).toNat : Nat) = n % 4096
  rw [key, IntKind.wrap_i64]
  omega
theorem rotP_comm : ∀ (q : Nat) (p : Int × Int), rotP q (p.2, -p.1) = ((rotP q p).2, -(rotP q p).1)
  | 0, p => rfl
  | q + 1, p => by
    show rotP q (-p.1, -p.2) = ((rotP q (p.2, -p.1)).2, -(rotP q (p.2, -p.1)).1)
    have := rotP_comm q (p.2, -p.1)
    simpa using this
theorem rotP_succ (q : Nat) (p : Int × Int) : rotP (q + 1) p = ((rotP q p).2, -(rotP q p).1) := rotP_comm q p
theorem t0_eq : tP 0 = (0, 1073741824) := by decide +kernel
theorem t512_eq : tP 512 = (759250125, 759250125) := by decide +kernel
/-- The plain place of step i in quadrant q. -/
theorem dir_plain (q i : Nat) (hi : i ≤ 512) : dirP (q * 1024 + i) = rotP q (tP i) := by
  unfold dirP
  have e1 : (q * 1024 + i) / 1024 = q := by omega
  have e2 : (q * 1024 + i) % 1024 = i := by omega
  rw [e1, e2, if_pos hi]
/-- The mirrored place. -/
theorem dir_mirror (q i : Nat) (hq : q < 4) (hi : i ≤ 512) : dirP ((q * 1024 + 1024 - i) % 4096) = rotP q ((tP i).2, (tP i).1) := by
  by_cases h0 : i = 0
  · subst h0
    rcases (by omega : q = 0 ∨ q = 1 ∨ q = 2 ∨ q = 3) with e | e | e | e <;> subst e <;> simp [dirP, rotP, t0_eq]
  · by_cases h5 : i = 512
    · subst h5
      have e : (q * 1024 + 1024 - 512) % 4096 = q * 1024 + 512 := by omega
      rw [e, dir_plain q 512 (by omega), t512_eq]
    · unfold dirP
      have e0 : (q * 1024 + 1024 - i) % 4096 = q * 1024 + (1024 - i) := by omega
      have e1 : (q * 1024 + (1024 - i)) / 1024 = q := by omega
      have e2 : (q * 1024 + (1024 - i)) % 1024 = 1024 - i := by omega
      rw [e0, e1, e2, if_neg (by omega), show 1024 - (1024 - i) = i by omega]
def GoodAt (X Y : Nat → Int) (s : Nat) : Prop := X s = (dirP s).1 ∧ Y s = (dirP s).2
/-- What layOut leaves: every place is as it was or right; those of step i are right. -/
def LayOk (i q : Nat) (X Y X' Y' : Nat → Int) : Prop :=
  (∀ s, s < 4096 → (X' s = X s ∧ Y' s = Y s) ∨ GoodAt X' Y' s) ∧ ∀ k, k < q → GoodAt X' Y' (k * 1024 + i) ∧ GoodAt X' Y' ((k * 1024 + 1024 - i) % 4096)
theorem LayOk.step {i q : Nat} {X Y X' Y' : Nat → Int} (h : LayOk i q X Y X' Y') (hq : q < 4) (hi : i ≤ 512) {a b : Int} (hab : rotP q (tP i) = (a, b)) {c d : Int} (hcd : rotP q ((tP i).2, (tP i).1) = (c, d)) :
    LayOk i (q + 1) X Y (upd (upd X' (q * 1024 + i) a) ((q * 1024 + 1024 - i) % 4096) c) (upd (upd Y' (q * 1024 + i) b) ((q * 1024 + 1024 - i) % 4096) d) := by
  have g1 := dir_plain q i hi
  have g2 := dir_mirror q i hq hi
  rw [hab] at g1
  rw [hcd] at g2
  have key : ∀ s, GoodAt X' Y' s ∨ s = q * 1024 + i ∨ s = (q * 1024 + 1024 - i) % 4096 → GoodAt (upd (upd X' (q * 1024 + i) a) ((q * 1024 + 1024 - i) % 4096) c) (upd (upd Y' (q * 1024 + i) b) ((q * 1024 + 1024 - i) % 4096) d) s := by
    intro s hs
    by_cases e2 : s = (q * 1024 + 1024 - i) % 4096
    · subst e2
      exact ⟨by rw [upd_same, g2], by rw [upd_same, g2]⟩
    · by_cases e1 : s = q * 1024 + i
      · subst e1
        exact ⟨by rw [upd_other _ _ e2, upd_same, g1], by rw [upd_other _ _ e2, upd_same, g1]⟩
      · rcases hs with hs | hs | hs
        · exact ⟨by rw [upd_other _ _ e2, upd_other _ _ e1]; exact hs.1, by rw [upd_other _ _ e2, upd_other _ _ e1]; exact hs.2⟩
        · exact absurd hs e1
        · exact absurd hs e2
  refine ⟨fun s hs => ?_, fun k hk => ?_⟩
  · by_cases e : s = q * 1024 + i ∨ s = (q * 1024 + 1024 - i) % 4096
    · exact Or.inr (key s (Or.inr e))
    · rw [not_or] at e
      rcases h.1 s hs with g | g
      · exact Or.inl ⟨by rw [upd_other _ _ e.2, upd_other _ _ e.1]; exact g.1, by rw [upd_other _ _ e.2, upd_other _ _ e.1]; exact g.2⟩
      · exact Or.inr (key s (Or.inl g))
  · rcases Nat.lt_or_ge k q with z | z
    · exact ⟨key _ (Or.inl (h.2 k z).1), key _ (Or.inl (h.2 k z).2)⟩
    · have : k = q := by omega
      subst this
      exact ⟨key _ (Or.inr (Or.inl rfl)), key _ (Or.inr (Or.inr rfl))⟩
theorem tP_bound (i : Nat) (hi : i < 513) : (0 ≤ (tP i).1 ∧ (tP i).1 ≤ 1073741824) ∧ (0 ≤ (tP i).2 ∧ (tP i).2 ≤ 1073741824) := by
  have h := allB_at (p := fun i => decide ((0 ≤ (tP i).1 ∧ (tP i).1 ≤ 1073741824) ∧ (0 ≤ (tP i).2 ∧ (tP i).2 ≤ 1073741824))) (n := 513) (by decide +kernel) i hi
  simpa using h
theorem rot_bound : ∀ (q : Nat) (p : Int × Int), (-1073741824 ≤ p.1 ∧ p.1 ≤ 1073741824) ∧ (-1073741824 ≤ p.2 ∧ p.2 ≤ 1073741824) → (-1073741824 ≤ (rotP q p).1 ∧ (rotP q p).1 ≤ 1073741824) ∧ (-1073741824 ≤ (rotP q p).2 ∧ (rotP q p).2 ≤ 1073741824)
  | 0, p, h => h
  | q + 1, p, h => rot_bound q (p.2, -p.1) ⟨h.2, by simp; omega⟩
set_option maxRecDepth 100000 in
set_option maxHeartbeats 4000000 in
theorem layOut_any (w : World) (b i : Nat) (X Y : Nat → Int) (hi : i ≤ 512) (h : MT w b X Y) :
    Calls Try.prog 100 #[.pointer (some ⟨b, 0, none⟩), .int .i64 i, .int .i64 (tP i).1, .int .i64 (tP i).2] w fun e w' => e = .returned (.tuple #[]) ∧ ∃ X' Y', MT w' b X' Y' ∧ LayOk i 4 X Y X' Y' ∧ w.grownBy w' (some b) := by
  have HM := hide h
  have htb := tP_bound i (by omega)
  clear h
  go_enter Try.func100, Try.ntmps100
  go_wp2
  go_loopw [2, 3, 8, 9, 10] (fun s2 s3 s8 s9 s10 wr => ∃ (q : Nat) (X' Y' : Nat → Int), q ≤ 4 ∧ s10 = .int .i64 ((q : Int) * 1024) ∧ s2 = .int .i64 (rotP q (tP i)).1 ∧ s3 = .int .i64 (rotP q (tP i)).2 ∧ s8 = .int .i64 (rotP q ((tP i).2, (tP i).1)).1 ∧ s9 = .int .i64 (rotP q ((tP i).2, (tP i).1)).2 ∧ MT wr b X' Y' ∧ LayOk i q X Y X' Y' ∧ w.grownBy wr (some b)) (fun _ _ _ _ s _ => 4096 - (intOf s).toNat)
  case atStart => exact ⟨0, X, Y, by omega, rfl, rfl, rfl, rfl, rfl, HM.out, ⟨fun s _ => Or.inl ⟨rfl, rfl⟩, fun k hk => by omega⟩, grown_refl _ _⟩
  case round =>
    obtain ⟨q, X', Y', hq, rfl, rfl, rfl, rfl, rfl, hm, hlo, hbel⟩ := hrel
    have HM' := hide hm
    have HLo := hide hlo
    have HBw := hide hbel
    clear hm hlo hbel
    by_cases hlt : q < 4
    · have hrb := rot_bound q (tP i) (by omega)
      have hrb2 := rot_bound q ((tP i).2, (tP i).1) (by simp; omega)
      have HS1 := hide (rotP_succ q (tP i))
      have HS2 := hide (rotP_succ q ((tP i).2, (tP i).1))
      obtain ⟨a, ha⟩ : ∃ a, a = (rotP q (tP i)).1 := ⟨_, rfl⟩
      obtain ⟨b', hb'⟩ : ∃ a, a = (rotP q (tP i)).2 := ⟨_, rfl⟩
      obtain ⟨c, hc⟩ : ∃ a, a = (rotP q ((tP i).2, (tP i).1)).1 := ⟨_, rfl⟩
      obtain ⟨d, hd⟩ : ∃ a, a = (rotP q ((tP i).2, (tP i).1)).2 := ⟨_, rfl⟩
      rw [← ha, ← hb'] at hrb
      rw [← hc, ← hd] at hrb2
      rw [← ha, ← hb', ← hc, ← hd]
      have HA := hide ha
      have HBb := hide hb'
      have HCc := hide hc
      have HDd := hide hd
      clear ha hb' hc hd
      obtain ⟨S1, hS1⟩ : ∃ S, S = q * 1024 + i := ⟨_, rfl⟩
      obtain ⟨S2, hS2⟩ : ∃ S, S = (q * 1024 + 1024 - i) % 4096 := ⟨_, rfl⟩
      have m1 : bits BinOp.and .i64 ((q : Int) * 1024 + (i : Int)) 4095 = (S1 : Int) := by rw [and4095, hS1]; omega
      have m2 : bits BinOp.and .i64 ((q : Int) * 1024 + 1024 - (i : Int)) 4095 = (S2 : Int) := by rw [and4095, hS2]; omega
      have l1 : S1 < 4096 := by omega
      have l2 : S2 < 4096 := by omega
      have HE1 := hide hS1
      have HE2 := hide hS2
      clear hS1 hS2
      have HN := hide ((((HM'.out.setX (v := a) l1).setY (v := b') l1).setX (v := c) l2).setY (v := d) l2)
      have x1 := HM'.out.x S1 l1
      have y1 := HM'.out.y S1 l1
      have x2 := HM'.out.x S2 l2
      have y2 := HM'.out.y S2 l2
      have x1' := (HM'.out.setX (v := a) l1).y S1 l1
      have x2' := ((HM'.out.setX (v := a) l1).setY (v := b') l1).x S2 l2
      have y2' := (((HM'.out.setX (v := a) l1).setY (v := b') l1).setX (v := c) l2).y S2 l2
      have fr := HM'.out.fr
      go_upto_region 11 with fail
      have HB2 : Hid (w.grownBy ((((wr.setCell ⟨b, S1, none⟩ (.int .i64 a)).setCell ⟨b, 4096 + S1, none⟩ (.int .i64 b')).setCell ⟨b, S2, none⟩ (.int .i64 c)).setCell ⟨b, 4096 + S2, none⟩ (.int .i64 d)) (some b)) := grown_set (grown_set (grown_set (grown_set HBw.out)))
      generalize ((((wr.setCell ⟨b, S1, none⟩ (.int .i64 a)).setCell ⟨b, 4096 + S1, none⟩ (.int .i64 b')).setCell ⟨b, S2, none⟩ (.int .i64 c)).setCell ⟨b, 4096 + S2, none⟩ (.int .i64 d)) = W at *
      clear x1 y1 x2 y2 x1' x2' y2' fr m1 m2
      go_wp2
      go_roundw
      case rel =>
        refine ⟨q + 1, _, _, by omega, by simp; omega, by rw [HS1.out, ← HBb.out], by rw [HS1.out, ← HA.out], by rw [HS2.out, ← HDd.out], by rw [HS2.out, ← HCc.out], HN.out, ?_, HB2.out⟩
        rw [HE1.out, HE2.out]
        exact HLo.out.step hlt hi (by rw [HA.out, HBb.out]) (by rw [HCc.out, HDd.out])
      case measure => simp [intOf]; omega
    · have hq4 : q = 4 := by omega
      subst hq4
      go_wp2
      go_end0
      exact ⟨rfl, X', Y', HM'.out, HLo.out, HBw.out⟩
end Go.Proofs.Qxb6500775a
