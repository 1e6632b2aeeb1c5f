import Derived.Test.Qxb6500775aLoss
namespace Go.Proofs.Qxb6500775a
open Go.RowKit

/-- The tables, the decibel rows with their values: Z 0 .. 130 the losses, Z 131 .. 225 the gains. -/
structure MZ (w : World) (b : Nat) (X Y Z : Nat → Int) : Prop where
  mt : MT w b X Y
  zz : ∀ j, j < 226 → w.cell? ⟨b, 8192 + j, none⟩ = some (.int .i64 (Z j))
theorem MT.toZ {w : World} {b : Nat} {X Y : Nat → Int} (h : MT w b X Y) : ∃ Z, MZ w b X Y Z :=
  ⟨fun j => if hj : j < 226 then Classical.choose (h.z j hj) else 0, h, fun j hj => by simp only [hj, dif_pos]; exact Classical.choose_spec (h.z j hj)⟩
theorem MZ.below {w w' : World} {b : Nat} {X Y Z : Nat → Int} (h : MZ w b X Y Z) (hb : Below w.heap.size w w') : MZ w' b X Y Z :=
  ⟨h.mt.below hb, fun j hj => cellKeep hb (h.zz j hj)⟩
theorem MZ.drew {w : World} {b : Nat} {X Y Z : Nat → Int} (h : MZ w b X Y Z) : MZ w.drew b X Y Z := ⟨h.mt.drew, h.zz⟩
theorem MZ.set {w : World} {b t : Nat} {X Y Z : Nat → Int} {v : Int} (h : MZ w b X Y Z) (ht : t < 226) : MZ (w.setCell ⟨b, 8192 + t, none⟩ (.int .i64 v)) b X Y (upd Z t v) := by
  refine ⟨h.mt.setZ ht, fun s hs => ?_⟩
  by_cases e : s = t
  · subst e
    rw [World.cell?_setCell_same _ _ _ (h.zz s hs), upd_same]
  · rw [World.cell?_setCell_other _ _ _ _ (by simp <;> omega), upd_other _ _ e]; exact h.zz s hs
/-- The least whole number of k decibels. -/
def lossP (k : Nat) : Int := if k % 10 = 0 then ((10 ^ (k / 10) : Nat) : Int) else ((dm (k % 10) / 10 ^ (15 - k / 10) + 1 : Nat) : Int)
def LossTo (Z : Nat → Int) (k : Nat) : Prop := ∀ j, j < k → Z j = lossP j
theorem LossTo.step {Z : Nat → Int} {k : Nat} {v : Int} (h : LossTo Z k) (hv : v = lossP k) : LossTo (upd Z k v) (k + 1) := by
  intro j hj
  by_cases e : j = k
  · subst e; rw [upd_same, hv]
  · rw [upd_other _ _ e]; exact h j (by omega)
set_option maxRecDepth 100000 in
set_option maxHeartbeats 4000000 in
theorem fillLoss_any (w : World) (b : Nat) (X Y Z : Nat → Int) (h : MZ w b X Y Z) :
    Calls Try.prog 62 #[.pointer (some ⟨b, 0, none⟩)] w fun e w' => e = .returned (.tuple #[]) ∧ ∃ Z', MZ w' b X Y Z' ∧ LossTo Z' 131 ∧ Below b w w' := by
  have HM := hide h
  clear h
  go_enter Try.func62, Try.ntmps62
  go_wp2
  go_loopw [2, 3, 4] (fun s t u wr => ∃ (k p d : Nat) (Z' : Nat → Int), k ≤ 131 ∧ p = 10 ^ (k / 10) ∧ d = 10 ^ (15 - k / 10) ∧ s = .int .i64 p ∧ t = .int .i64 d ∧ u = .int .i64 k ∧ MZ wr b X Y Z' ∧ LossTo Z' k ∧ Below b w wr) (fun _ _ u _ => 131 - (intOf u).toNat)
  case atStart => exact ⟨0, 1, 1000000000000000, Z, by omega, rfl, rfl, rfl, rfl, rfl, HM.out, fun j hj => by omega, Below.refl _ _⟩
  case round =>
    clear HM
    obtain ⟨k, p, d, Z', hk, hp, hd, rfl, rfl, rfl, hm, hl, hbel⟩ := hrel
    have HM := hide hm
    have HL := hide hl
    have HB := hide hbel
    clear hm hl hbel
    by_cases hk1 : k < 131
    · have p13 : p ≤ 10 ^ 13 := by rw [hp]; exact Nat.pow_le_pow_right (by omega) (by omega)
      have d15 : d ≤ 10 ^ 15 := by rw [hd]; exact Nat.pow_le_pow_right (by omega) (by omega)
      have d2 : 10 ^ 2 ≤ d := by rw [hd]; exact Nat.pow_le_pow_right (by omega) (by omega)
      have hd0 : ¬ (d : Int) = 0 := by omega
      have hd1 : ¬ d = 0 := by omega
      obtain ⟨j, hj⟩ : ∃ j, j = k % 10 := ⟨_, rfl⟩
      have hj10 : j < 10 := by omega
      have m1 : Int.tmod (k : Int) 10 = (j : Int) := by rw [Int.tmod_eq_emod_of_nonneg (by omega)]; omega
      have m2 : (k : Int) % 10 = (j : Int) := by omega
      have cz := HM.out.zz k (by omega)
      have fr := HM.out.mt.fr
      have HP := hide hp
      have HD := hide hd
      have HJ := hide hj
      clear hp hd hj
      by_cases hj0 : j = 0
      · subst hj0
        have hv : (p : Int) = lossP k := by unfold lossP; rw [if_pos HJ.out.symm, HP.out]
        have HN := hide ((HM.out.set (t := k) (v := (p : Int)) (by omega)))
        have HL2 := hide (HL.out.step hv)
        have HB2 := hide (HB.out.setCell (p := ⟨b, 8192 + k, none⟩) (Nat.le_refl _) (.int .i64 p))
        clear hv
        go_wp2
        go_roundw
        case rel => exact ⟨k + 1, p, d, _, by omega, by rw [HP.out]; congr 1; have := HJ.out; omega, by rw [HD.out]; congr 2; have := HJ.out; omega, rfl, rfl, by simp, HN.out, HL2.out, HB2.out⟩
        case measure => simp [intOf]; omega
      · obtain ⟨q, hq⟩ : ∃ q, q = dm j / d := ⟨_, rfl⟩
        have hv : ((q : Int) + 1) = lossP k := by unfold lossP; rw [if_neg (by have := HJ.out; omega), hq, HJ.out, HD.out]; simp
        have q1 : ((dm j : Nat) : Int) / (d : Int) = (q : Int) := by rw [hq]; simp
        have q2 : Int.tdiv ((dm j : Nat) : Int) (d : Int) = (q : Int) := by rw [Int.tdiv_eq_ediv_of_nonneg (by omega)]; exact q1
        have hdm := dm_lt j
        have hq8 : q ≤ 8000000000000000 := by rw [hq]; exact Nat.le_trans (Nat.div_le_self _ _) (by omega)
        have w1 : IntKind.i64.wrap (q : Int) = (q : Int) := IntWalk.i64_in _ (by omega)
        have w2 : IntKind.i64.wrap ((q : Int) + 1) = (q : Int) + 1 := IntWalk.i64_in _ (by omega)
        have cz' := HM.out.drew.zz k (by omega)
        have fr' := HM.out.drew.mt.fr
        have k226 : (k : Int) < 131 := by omega
        have HN := hide ((HM.out.drew.set (t := k) (v := (q : Int) + 1) (by omega)))
        have HL2 := hide (HL.out.step hv)
        have HB2 := hide (HB.out.drew.setCell (p := ⟨b, 8192 + k, none⟩) (Nat.le_refl _) (.int .i64 ((q : Int) + 1)))
        clear hv hq
        by_cases hj9 : j = 9
        · obtain ⟨dq, hdq⟩ : ∃ dq, dq = 10 ^ (15 - (k + 1) / 10) := ⟨_, rfl⟩
          have hdd : d = dq * 10 := by rw [hdq, HD.out, ← Nat.pow_succ]; congr 1; have := HJ.out; omega
          have x1 : (d : Int) / 10 = (dq : Int) := by omega
          have x2 : Int.tdiv (d : Int) 10 = (dq : Int) := by rw [Int.tdiv_eq_ediv_of_nonneg (by omega)]; exact x1
          have HDQ := hide hdq
          clear hdq hdd
          subst hj9
          have hc := fun w => hide (dm_any w 9 (by omega))
          generalize dm 9 = D at *
          go_upto_region 8 with fail
          go_region_law (first
            | (refine step_call rfl 102 #[.int .i64 9] (by simp [go_sem]) (hc _).out ?_; rintro e w3 ⟨rfl, rfl⟩; refine ⟨_, rfl, ?_⟩))
          all_goals
            go_wp2
            go_roundw
            case rel => exact ⟨k + 1, p * 10, dq, _, by omega, by rw [HP.out, ← Nat.pow_succ]; congr 1; have := HJ.out; omega, HDQ.out, by simp, by simp, by simp, HN.out, HL2.out, HB2.out⟩
            case measure => simp [intOf]; omega
        · go_upto_region 8 with fail
          go_region_law (first
            | (refine step_call rfl 102 #[.int .i64 j] (by simp [go_sem]) (dm_any _ j (by omega)) ?_; rintro e w3 ⟨rfl, rfl⟩; refine ⟨_, rfl, ?_⟩))
          all_goals
            go_wp2
            go_roundw
            case rel => exact ⟨k + 1, p, d, _, by omega, by rw [HP.out]; congr 1; have := HJ.out; omega, by rw [HD.out]; congr 2; have := HJ.out; omega, rfl, rfl, by simp, HN.out, HL2.out, HB2.out⟩
            case measure => simp [intOf]; omega
    · have hke : k = 131 := by omega
      subst hke
      go_wp2
      go_end0
      exact ⟨rfl, Z', HM.out, HL.out, HB.out⟩
end Go.Proofs.Qxb6500775a
