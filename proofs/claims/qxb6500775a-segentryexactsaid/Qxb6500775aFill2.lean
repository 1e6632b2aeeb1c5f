import Derived.Test.Qxb6500775aFill
namespace Go.Proofs.Qxb6500775a
open Go.RowKit

def LvAt (f : Nat → Nat × Nat) (k S : Nat) : Prop := ∀ i a, (Lv k)[i]? = some a → f (i * S) = a
def MidAt (f : Nat → Nat × Nat) (k S H j : Nat) : Prop := LvAt f k S ∧ ∀ i, i < j → ∀ a b, (Lv k)[i]? = some a → (Lv k)[i + 1]? = some b → f (i * S + H) = bis a b
theorem MidAt.step {f : Nat → Nat × Nat} {k S H j : Nat} {a b : Nat × Nat} (h : MidAt f k S H j) (hS : S = H * 2) (hH : 1 ≤ H) (ha : (Lv k)[j]? = some a) (hb : (Lv k)[j + 1]? = some b) : MidAt (updP f (j * S + H) (bis a b)) k S H (j + 1) := by
  refine ⟨fun i x hx => ?_, fun i hi x y hx hy => ?_⟩
  · have : i * S ≠ j * S + H := by
      subst hS
      intro e
      have e1 : i * (H * 2) = H * (i * 2) := by rw [Nat.mul_comm i, Nat.mul_assoc, Nat.mul_comm 2]
      have e2 : j * (H * 2) + H = H * (j * 2 + 1) := by rw [Nat.mul_comm j, Nat.mul_assoc, Nat.mul_comm 2, Nat.mul_add, Nat.mul_one]
      rw [e1, e2] at e
      have := Nat.eq_of_mul_eq_mul_left (by omega) e
      omega
    simp only [updP, this, if_false]
    exact h.1 i x hx
  · by_cases e : i = j
    · subst e
      rw [ha] at hx
      rw [hb] at hy
      injection hx with hx
      injection hy with hy
      subst hx hy
      simp [updP]
    · have : i * S + H ≠ j * S + H := by
        intro e2
        have e3 : i * S = j * S := by omega
        exact e (Nat.eq_of_mul_eq_mul_right (by omega) e3)
      simp only [updP, this, if_false]
      exact h.2 i (by omega) x y hx hy
theorem MidAt.next {f : Nat → Nat × Nat} {k S H : Nat} (h : MidAt f k S H (2 ^ k)) (hS : S = H * 2) : LvAt f (k + 1) H := by
  intro i a ha
  have hl := Lv_len (k + 1)
  have hlk := Lv_len k
  have hi := (List.getElem?_eq_some_iff.1 ha).1
  rw [hl, Nat.pow_succ] at hi
  rw [Lv] at ha
  rcases Nat.mod_two_eq_zero_or_one i with e | e
  · obtain ⟨m, rfl⟩ : ∃ m, i = m * 2 := ⟨i / 2, by omega⟩
    rw [ref_even (Lv k) m (by omega)] at ha
    have := h.1 m a ha
    rw [hS] at this
    rw [Nat.mul_assoc, Nat.mul_comm 2 H]
    exact this
  · obtain ⟨m, rfl⟩ : ∃ m, i = m * 2 + 1 := ⟨i / 2, by omega⟩
    obtain ⟨x, hx⟩ : ∃ x, (Lv k)[m]? = some x := ⟨_, List.getElem?_eq_getElem (by omega)⟩
    obtain ⟨y, hy⟩ : ∃ y, (Lv k)[m + 1]? = some y := ⟨_, List.getElem?_eq_getElem (by omega)⟩
    rw [ref_odd (Lv k) m x y hx hy] at ha
    injection ha with ha
    have := h.2 m (by omega) x y hx hy
    rw [hS] at this
    rw [← ha, ← this, Nat.add_mul, Nat.one_mul, Nat.mul_assoc, Nat.mul_comm 2 H]
theorem diag_is : diag * diag ≤ 10633823966279326983230456482242756608 ∧ 10633823966279326983230456482242756608 < (diag + 1) * (diag + 1) := by decide +kernel
theorem oct_len {i : Nat} (hi : i ≤ 512) : ∃ a, (Lv 9)[i]? = some a ∧ (a.1 ≤ 4611686018427387904 ∧ a.2 ≤ 4611686018427387904) ∧ (tP i).1 = ((tabN a.1 : Nat) : Int) ∧ (tP i).2 = ((tabN a.2 : Nat) : Int) := by
  have hl := Lv_len 9
  obtain ⟨a, ha⟩ : ∃ a, (Lv 9)[i]? = some a := ⟨_, List.getElem?_eq_getElem (by omega)⟩
  have ht : Tlit[i]? = some (tabN a.1, tabN a.2) := by rw [← T_eq, List.getElem?_map, ha]; rfl
  have hb : (Lv 9).all (fun a => Nat.ble a.1 4611686018427387904 && Nat.ble a.2 4611686018427387904) = true := by decide +kernel
  rw [List.all_eq_true] at hb
  have hb' := hb a (List.mem_of_getElem? ha)
  simp only [Bool.and_eq_true, Nat.ble_eq] at hb'
  refine ⟨a, ha, hb', ?_, ?_⟩
  · simp [tP, List.getD_eq_getElem?_getD, ht]
  · simp [tP, List.getD_eq_getElem?_getD, ht]
theorem OC.grown {w w' : World} {o b : Nat} {f : Nat → Nat × Nat} (h : OC w o f) (hg : w.grownBy w' (some b)) (hne : o ≠ b) : OC w' o f := by
  have hl : o < w.heap.size := World.block_lt_of_cell? _ _ (h.x 0 (by omega))
  have hb := hg.block o hl (fun e => hne (by injection e))
  exact ⟨fun i hi => (World.cell?_of_block (a := ⟨o, i * 2, none⟩) hb).trans (h.x i hi), fun i hi => (World.cell?_of_block (a := ⟨o, i * 2 + 1, none⟩) hb).trans (h.y i hi), fun j => (World.frozen?_of_block (a := ⟨o, j, none⟩) hb).trans (h.fr j)⟩
theorem OC.drew {w : World} {o : Nat} {f : Nat → Nat × Nat} (h : OC w o f) : OC w.drew o f := ⟨h.x, h.y, h.fr⟩
def AllGood (X Y : Nat → Int) (i : Nat) : Prop := ∀ i', i' < i → ∀ k, k < 4 → GoodAt X Y (k * 1024 + i') ∧ GoodAt X Y ((k * 1024 + 1024 - i') % 4096)
theorem AllGood.step {X Y X' Y' : Nat → Int} {i : Nat} (h : AllGood X Y i) (hi : i ≤ 512) (hl : LayOk i 4 X Y X' Y') : AllGood X' Y' (i + 1) := by
  have keep : ∀ s, s < 4096 → GoodAt X Y s → GoodAt X' Y' s := by
    intro s hs hg
    rcases hl.1 s hs with ⟨e1, e2⟩ | e
    · exact ⟨e1.trans hg.1, e2.trans hg.2⟩
    · exact e
  intro i' hi' k hk
  rcases Nat.lt_or_ge i' i with z | z
  · exact ⟨keep _ (by omega) (h i' z k hk).1, keep _ (by omega) (h i' z k hk).2⟩
  · have : i' = i := by omega
    subst this
    exact hl.2 k hk
theorem AllGood.all {X Y : Nat → Int} (h : AllGood X Y 513) (s : Nat) (hs : s < 4096) : GoodAt X Y s := by
  by_cases hr : s % 1024 ≤ 512
  · have := (h (s % 1024) (by omega) (s / 1024) (by omega)).1
    rwa [show s / 1024 * 1024 + s % 1024 = s by omega] at this
  · have := (h (1024 - s % 1024) (by omega) (s / 1024) (by omega)).2
    rwa [show (s / 1024 * 1024 + 1024 - (1024 - s % 1024)) % 4096 = s by omega] at this
theorem toTable_is (w : World) (a : Nat) (t : Int) (h : a ≤ 4611686018427387904) (ht : t = ((tabN a : Nat) : Int)) : Calls Try.prog 101 #[.int .u64 (a : Nat)] w fun e w' => e = .returned (.int .i64 t) ∧ w' = w := by
  refine (toTable_any w (a : Nat) (by omega) (by omega)).mono ?_
  rintro e w' ⟨rfl, rfl⟩
  refine ⟨?_, rfl⟩
  rw [ht]
  unfold tabN
  simp
set_option maxRecDepth 100000 in
set_option maxHeartbeats 8000000 in
theorem fillDirections_any (w : World) (b : Nat) (X Y : Nat → Int) (h : MT w b X Y) :
    Calls Try.prog 61 #[.pointer (some ⟨b, 0, none⟩)] w fun e w' => e = .returned (.tuple #[]) ∧ ∃ X' Y', MT w' b X' Y' ∧ (∀ s, s < 4096 → GoodAt X' Y' s) ∧ Below b w w' := by
  have HM := hide h
  have hbw : b < w.heap.size := World.block_lt_of_cell? _ _ (h.x 0 (by omega))
  clear h
  obtain ⟨W, hW⟩ : ∃ W, W = w.alloc (.cells Try.zeroCells128 128) := ⟨_, rfl⟩
  have HB : Hid (Below w.heap.size w W) := by rw [hW]; exact belA _ _
  have HO : Hid (OC W w.heap.size (fun _ => (0, 0))) := by rw [hW]; exact oc0 w
  go_enter Try.func61, Try.ntmps61
  go_upto_region 1 with fail
  rw [← hW]
  clear hW
  go_wp2_with fail
  refine (isqrtU128_any _ 576460752303423488 0 ⟨by decide, by decide⟩ ⟨by decide, by decide⟩).mono ?_
  rintro e w1 ⟨r, rfl, ⟨hr0, hr1⟩, hr2, hr3, hb1⟩
  have hrd : r = ((diag : Nat) : Int) := by
    have d1 := Int.ofNat_le.2 diag_is.1
    have d2 := Int.ofNat_lt.2 diag_is.2
    refine root_uniq hr0 (Int.natCast_nonneg _) hr2 hr3 ?_ ?_
    · simpa [v128] using d1
    · simpa [v128] using d2
  subst hrd
  replace HB := hide (HB.out.trans (hb1.mono HB.out.size))
  replace HO := hide (HO.out.below hb1)
  clear hr0 hr1 hr2 hr3 hb1
  generalize hoo : w.heap.size = o at *
  have x0 := HO.out.x 0 (by omega)
  have y0 := HO.out.y 0 (by omega)
  have x5 := HO.out.x 512 (by omega)
  have y5 := HO.out.y 512 (by omega)
  have fr := HO.out.fr
  generalize hdg : diag = dg at *
  go_upto_region 4 with fail
  have HO2 := hide ((HO.out.set (t := 0) (p := (0, 4611686018427387904)) (by omega)).set (t := 512) (p := (dg, dg)) (by omega))
  have HL0 : Hid (LvAt (updP (updP (fun _ => (0, 0)) 0 (0, 4611686018427387904)) 512 (dg, dg)) 0 512) := by
    intro i a ha
    rw [Lv, hdg] at ha
    rcases i with _ | _ | i
    · simp at ha; subst ha; rfl
    · simp at ha; subst ha; rfl
    · simp at ha
  have HB2 : Hid (Below o w ((((w1.setCell ⟨o, 0, none⟩ (.int .u64 0)).setCell ⟨o, 1, none⟩ (.int .u64 4611686018427387904)).setCell ⟨o, 1024, none⟩ (.int .u64 (dg : Nat))).setCell ⟨o, 1025, none⟩ (.int .u64 (dg : Nat)))) := (((HB.out.setCell (Nat.le_refl _) _).setCell (Nat.le_refl _) _).setCell (Nat.le_refl _) _).setCell (Nat.le_refl _) _
  clear x0 y0 x5 y5 fr HO HB hdg
  obtain ⟨W2, hW2⟩ : ∃ W2, W2 = ((((w1.setCell ⟨o, 0, none⟩ (.int .u64 0)).setCell ⟨o, 1, none⟩ (.int .u64 4611686018427387904)).setCell ⟨o, 1024, none⟩ (.int .u64 (dg : Nat))).setCell ⟨o, 1025, none⟩ (.int .u64 (dg : Nat))) := ⟨_, rfl⟩
  replace HO2 : Hid (OC W2 o (updP (updP (fun _ => (0, 0)) 0 (0, 4611686018427387904)) 512 (dg, dg))) := by rw [hW2]; exact HO2.out
  rw [← hW2] at HB2 ⊢
  clear hW2
  go_wp2
  go_loopw [4] (fun s wr => ∃ (k : Nat) (f : Nat → Nat × Nat), k ≤ 9 ∧ s = .int .i64 ((2 ^ (9 - k) : Nat) : Int) ∧ OC wr o f ∧ LvAt f k (2 ^ (9 - k)) ∧ Below o w wr) (fun s _ => (intOf s).toNat)
  case atStart => exact ⟨0, _, by omega, rfl, HO2.out, HL0.out, HB2.out⟩
  case round =>
    clear HO2 HL0 HB2 W2
    obtain ⟨k, f, hk, rfl, hoc, hlv, hbel⟩ := hrel
    have HO := hide hoc
    have HLv := hide hlv
    have HBw := hide hbel
    clear hoc hlv hbel
    by_cases hk9 : k < 9
    · obtain ⟨H, hH⟩ : ∃ H, H = 2 ^ (8 - k) := ⟨_, rfl⟩
      obtain ⟨S, hS⟩ : ∃ S, S = 2 ^ (9 - k) := ⟨_, rfl⟩
      have hSH : S = H * 2 := by rw [hS, hH, ← Nat.pow_succ]; congr 1; omega
      have hH1 : 1 ≤ H := by rw [hH]; exact Nat.one_le_two_pow
      have hKS : 2 ^ k * S = 512 := by rw [hS, ← Nat.pow_add, show k + (9 - k) = 9 by omega]
      rw [← hS] at HLv ⊢
      have hS512 : S ≤ 512 := by
        have : 1 ≤ 2 ^ k := Nat.one_le_two_pow
        have := Nat.mul_le_mul_right S this
        omega
      have hS2 : 2 ≤ S := by omega
      have HSH := hide hSH
      have HHe := hide hH
      have HKS := hide hKS
      clear hSH hH hS hKS
      go_wp2
      have e16 : decide (2 ≤ (S : Int)) = true := decide_eq_true (by omega)
      try rw [e16]
      clear e16
      go_loopw [5] (fun s wr => ∃ (j l : Nat) (f : Nat → Nat × Nat), j ≤ 2 ^ k ∧ l = j * S ∧ s = .int .i64 (l : Nat) ∧ OC wr o f ∧ MidAt f k S H j ∧ Below o w wr) (fun s _ => 512 - (intOf s).toNat)
      case atStart => exact ⟨0, 0, f, Nat.zero_le _, by simp, rfl, HO.out, ⟨HLv.out, fun i hi => by omega⟩, HBw.out⟩
      case round =>
        clear HO HLv HBw f
        obtain ⟨j, l, f, hj, hl, rfl, hoc, hmid, hbel⟩ := hrel
        have HO := hide hoc
        have HMd := hide hmid
        have HBw := hide hbel
        clear hoc hmid hbel
        by_cases hj2 : j < 2 ^ k
        · have hlS : l + S ≤ 512 := by
            have := Nat.mul_le_mul_right S (show j + 1 ≤ 2 ^ k by omega)
            rw [HKS.out, Nat.add_mul, Nat.one_mul] at this
            omega
          have hlen := Lv_len k
          obtain ⟨pa, hpa⟩ : ∃ x, (Lv k)[j]? = some x := ⟨_, List.getElem?_eq_getElem (by omega)⟩
          obtain ⟨pb, hpb⟩ : ∃ x, (Lv k)[j + 1]? = some x := ⟨_, List.getElem?_eq_getElem (by omega)⟩
          have hok := ok_lv hk9 hpa hpb
          have fa := HMd.out.1 j pa hpa
          have fb := HMd.out.1 (j + 1) pb hpb
          rw [← hl] at fa
          rw [Nat.add_mul, Nat.one_mul, ← hl] at fb
          have HN := hide (HMd.out.step HSH.out hH1 hpa hpb)
          rw [← hl] at HN
          obtain ⟨l1, hl1⟩ : ∃ x, x = l + S := ⟨_, rfl⟩
          obtain ⟨lm, hlm⟩ : ∃ x, x = l + H := ⟨_, rfl⟩
          rw [← hl1] at fb
          rw [← hlm] at HN
          have HSd := HSH.out
          have q1 : (S : Int) / 2 = (H : Int) := by omega
          have q1' : Int.tdiv (S : Int) 2 = (H : Int) := by rw [Int.tdiv_eq_ediv_of_nonneg (by omega)]; exact q1
          have e1 : (l : Int) + (S : Int) = (l1 : Int) := by omega
          have e2 : (l : Int) + (H : Int) = (lm : Int) := by omega
          have ww1 : IntKind.i64.wrap (l1 : Int) = (l1 : Int) := IntWalk.i64_in _ (by omega)
          have ww2 : IntKind.i64.wrap (lm : Int) = (lm : Int) := IntWalk.i64_in _ (by omega)
          have ww3 : IntKind.i64.wrap (H : Int) = (H : Int) := IntWalk.i64_in _ (by omega)
          have b1 : (l1 : Int) < 513 := by omega
          have b2 : (lm : Int) < 513 := by omega
          have b3 : (l : Int) < 513 := by omega
          have xa := HO.out.x l (by omega)
          have ya := HO.out.y l (by omega)
          have xb := HO.out.x l1 (by omega)
          have yb := HO.out.y l1 (by omega)
          rw [fa] at xa ya
          rw [fb] at xb yb
          have HOk := hide hok
          have HLm := hide hlm
          have HL1 := hide hl1
          have HLl := hide hl
          clear hok fa fb hpa hpb hlm hl1 HSd hl hlen
          go_upto_region 10 with fail
          go_region_law (first
            | (refine step_call rfl 99 #[.agg #[.int .u64 (pa.1 : Nat), .int .u64 (pa.2 : Nat)], .agg #[.int .u64 (pb.1 : Nat), .int .u64 (pb.2 : Nat)]] (by simp [go_sem]) (bisect_is _ pa pb HOk.out) ?_; rintro e w3 ⟨rfl, hb3⟩; refine ⟨_, rfl, ?_⟩; have HO3 := hide (HO.out.below (of_drew hb3)); have HB3 : Hid (Below o w w3) := HBw.out.trans ((of_drew hb3).mono (Nat.le_of_lt (World.block_lt_of_cell? _ _ xa))); have xm := HO3.out.x lm (by omega); have ym := HO3.out.y lm (by omega); have fm := HO3.out.fr; clear hb3))
          all_goals
            have HO4 := hide (HO3.out.set (t := lm) (p := bis pa pb) (by omega))
            have HB4 : Hid (Below o w ((w3.setCell ⟨o, lm * 2, none⟩ (.int .u64 ((bis pa pb).1 : Nat))).setCell ⟨o, lm * 2 + 1, none⟩ (.int .u64 ((bis pa pb).2 : Nat)))) := (HB3.out.setCell (Nat.le_refl _) _).setCell (Nat.le_refl _) _
            generalize ((w3.setCell ⟨o, lm * 2, none⟩ (.int .u64 ((bis pa pb).1 : Nat))).setCell ⟨o, lm * 2 + 1, none⟩ (.int .u64 ((bis pa pb).2 : Nat))) = W4 at *
            clear xa ya xb yb xm ym fm
            go_wp2
            go_roundw
            case rel => exact ⟨j + 1, l1, _, by omega, by rw [HL1.out, HLl.out, Nat.add_mul, Nat.one_mul], rfl, HO4.out, HN.out, HB4.out⟩
            case measure => simp [intOf]; omega
        · have hje : j = 2 ^ k := by omega
          have hl5 : l = 512 := by rw [hl, hje]; exact HKS.out
          have HSd := HSH.out
          have q1 : (S : Int) / 2 = (H : Int) := by omega
          have q1' : Int.tdiv (S : Int) 2 = (H : Int) := by rw [Int.tdiv_eq_ediv_of_nonneg (by omega)]; exact q1
          have ww3 : IntKind.i64.wrap (H : Int) = (H : Int) := IntWalk.i64_in _ (by omega)
          have HNx : Hid (LvAt f (k + 1) H) := by
            have hm := HMd.out
            rw [hje] at hm
            exact hm.next HSH.out
          clear hl hje HSd
          go_wp2
          go_roundw
          case rel =>
            have e8 : H = 2 ^ (9 - (k + 1)) := by rw [HHe.out, show 8 - k = 9 - (k + 1) by omega]
            exact ⟨k + 1, f, by omega, by rw [← e8], HO.out, by rw [← e8]; exact HNx.out, HBw.out⟩
          case measure => simp [intOf]; omega
    · have hk9e : k = 9 := by omega
      subst hk9e
      go_wp2
      have e9 : ((2 ^ (9 - 9) : Nat) : Int) = 1 := rfl
      rw [e9]
      clear e9
      have HM2 : Hid (MT wr b X Y) := HM.out.below (by rw [hoo]; exact HBw.out)
      have HBb : Hid (Below b w wr) := HBw.out.mono (by omega)
      go_loopw [6] (fun s wx => ∃ (i : Nat) (X' Y' : Nat → Int), i ≤ 513 ∧ s = .int .i64 i ∧ MT wx b X' Y' ∧ OC wx o f ∧ AllGood X' Y' i ∧ Below b w wx) (fun s _ => 513 - (intOf s).toNat)
      case atStart => exact ⟨0, X, Y, by omega, rfl, HM2.out, HO.out, fun i hi => by omega, HBb.out⟩
      case round =>
        clear HO HM2 HBb HBw
        obtain ⟨i, X', Y', hi, rfl, hm, hoc, hall, hbel⟩ := hrel
        have HM' := hide hm
        have HO := hide hoc
        have HA := hide hall
        have HBw := hide hbel
        clear hm hoc hall hbel
        by_cases hi2 : i ≤ 512
        · obtain ⟨a, ha, ⟨ha1, ha2⟩, ht1, ht2⟩ := oct_len hi2
          have fa := HLv.out i a ha
          rw [show i * 2 ^ (9 - 9) = i by simp] at fa
          have xa := HO.out.x i (by omega)
          have ya := HO.out.y i (by omega)
          rw [fa] at xa ya
          have HT1 := hide ht1
          have HT2 := hide ht2
          obtain ⟨a1, a2⟩ := a
          simp only at xa ya ha1 ha2
          have b3 : (i : Int) < 513 := by omega
          have hol : o < wr.heap.size := World.block_lt_of_cell? _ _ xa
          clear ha fa ht1 ht2
          go_upto_region 14 with fail
          go_region_law (first
            | (refine step_call rfl 101 #[.int .u64 (a1 : Nat)] ?_ (toTable_is _ a1 (tP i).1 ha1 HT1.out) ?_; (focus (simp [go_sem]; done)); rintro e w3 ⟨rfl, rfl⟩; refine ⟨_, rfl, ?_⟩)
            | (refine step_call rfl 101 #[.int .u64 (a2 : Nat)] ?_ (toTable_is _ a2 (tP i).2 ha2 HT2.out) ?_; (focus (simp [go_sem]; done)); rintro e w3 ⟨rfl, rfl⟩; refine ⟨_, rfl, ?_⟩)
            | (refine step_call rfl 100 #[.pointer (some ⟨b, 0, none⟩), .int .i64 i, .int .i64 (tP i).1, .int .i64 (tP i).2] ?_ (layOut_any _ b i X' Y' hi2 HM'.out.drew) ?_; (focus (simp [go_sem]; done)); rintro e w3 ⟨rfl, X2, Y2, hm2, hlay, hgr⟩; refine ⟨_, rfl, ?_⟩; have HM3 := hide hm2; have HO3 := hide (HO.out.drew.grown hgr (by omega)); have HA3 := hide (HA.out.step hi2 hlay); have HB3 : Hid (Below b w w3) := HBw.out.drew.grown hgr (by simp; omega) (fun k h => by injection h; omega); clear hm2 hlay hgr))
          all_goals
            clear xa ya
            go_wp2
            go_roundw
            case rel => exact ⟨i + 1, X2, Y2, by omega, by go_num, HM3.out, HO3.out, HA3.out, HB3.out⟩
            case measure => simp [intOf]; omega
        · have hie : i = 513 := by omega
          subst hie
          go_wp2
          go_end0
          exact ⟨rfl, X', Y', HM'.out, HA.out.all, HBw.out⟩
end Go.Proofs.Qxb6500775a
