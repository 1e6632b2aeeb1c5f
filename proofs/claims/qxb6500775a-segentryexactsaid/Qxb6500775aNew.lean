import Derived.Test.Qxb6500775aGain
namespace Go.Proofs.Qxb6500775a
open Go.RowKit

def isZ : Value → Bool
  | .int .i64 (.ofNat 0) => true
  | _ => false
theorem isZ_eq {v : Value} (h : isZ v = true) : v = .int .i64 0 := by
  unfold isZ at h
  split at h
  · rfl
  · cases h
def stripZ : Nat → List Value → Option (List Value)
  | 0, l => some l
  | _ + 1, [] => none
  | n + 1, v :: l => match isZ v with
    | true => stripZ n l
    | false => none
def goZ : Nat → List Value → Bool
  | 0, _ => true
  | n + 1, l => match stripZ 61 l with
    | some r => goZ n r
    | none => false
theorem stripZ_at : ∀ (n : Nat) (l r : List Value), stripZ n l = some r → (∀ i, i < n → l[i]? = some (.int .i64 0)) ∧ ∀ i, r[i]? = l[i + n]?
  | 0, l, r, h => by
    simp only [stripZ, Option.some.injEq] at h
    subst h
    exact ⟨fun i hi => absurd hi (Nat.not_lt_zero _), fun i => rfl⟩
  | n + 1, [], r, h => by simp [stripZ] at h
  | n + 1, v :: l, r, h => by
    rw [stripZ] at h
    split at h
    · rename_i hv
      obtain ⟨h1, h2⟩ := stripZ_at n l r h
      refine ⟨fun i hi => ?_, fun i => ?_⟩
      · rcases i with _ | i
        · rw [isZ_eq hv]; rfl
        · rw [List.getElem?_cons_succ]; exact h1 i (by omega)
      · rw [show i + (n + 1) = (i + n) + 1 by omega, List.getElem?_cons_succ]; exact h2 i
    · cases h
theorem goZ_at : ∀ (n : Nat) (l : List Value), goZ n l = true → ∀ i, i < n * 61 → l[i]? = some (.int .i64 0)
  | 0, l, _ => fun i hi => absurd hi (by omega)
  | n + 1, l, h => by
    rw [goZ] at h
    split at h
    · rename_i r hr
      obtain ⟨h1, h2⟩ := stripZ_at _ _ _ hr
      intro i hi
      by_cases hlt : i < 61
      · exact h1 i hlt
      · have := goZ_at n r h (i - 61) (by omega)
        rw [h2, show i - 61 + 61 = i by omega] at this
        exact this
    · cases h
theorem zeros_lo : goZ 69 Try.zeroCells91.toList = true := by decide +kernel
theorem zeros_hi : goZ 69 (Try.zeroCells91.toList.drop 4209) = true := by decide +kernel
theorem zeros_at (i : Nat) (hi : i < 8418) : Try.zeroCells91[i]? = some (.int .i64 0) := by
  rw [← Array.getElem?_toList]
  by_cases h : i < 4209
  · exact goZ_at _ _ zeros_lo i (by omega)
  · have := goZ_at _ _ zeros_hi (i - 4209) (by omega)
    rw [List.getElem?_drop, show 4209 + (i - 4209) = i by omega] at this
    exact this
/-- The tables as New leaves them. -/
structure Tabs (w : World) (b : Nat) : Prop where
  x : ∀ s, s < 4096 → w.cell? ⟨b, s, none⟩ = some (.int .i64 (dirP s).1)
  y : ∀ s, s < 4096 → w.cell? ⟨b, 4096 + s, none⟩ = some (.int .i64 (dirP s).2)
  loss : ∀ k, k < 131 → w.cell? ⟨b, 8192 + k, none⟩ = some (.int .i64 (lossP k))
  gain : ∀ j, j < 95 → w.cell? ⟨b, 8323 + j, none⟩ = some (.int .i64 (gainP j : Nat))
theorem Tabs.below {w w' : World} {b : Nat} (h : Tabs w b) (hb : Below w.heap.size w w') : Tabs w' b :=
  ⟨fun s hs => cellKeep hb (h.x s hs), fun s hs => cellKeep hb (h.y s hs), fun s hs => cellKeep hb (h.loss s hs), fun s hs => cellKeep hb (h.gain s hs)⟩
theorem Tabs.drew {w : World} {b : Nat} (h : Tabs w b) : Tabs w.drew b := ⟨h.x, h.y, h.loss, h.gain⟩
theorem mt0 (w : World) : MT (w.alloc (.cells Try.zeroCells91 91)) w.heap.size (fun _ => 0) (fun _ => 0) := by
  refine ⟨fun i hi => ?_, fun i hi => ?_, fun i hi => ⟨0, ?_⟩, fun j => by simp [go_sem]⟩
  · have := zeros_at i (by omega); simp [go_sem, this]
  · have := zeros_at (4096 + i) (by omega); simp [go_sem, this]
  · have := zeros_at (8192 + i) (by omega); simp [go_sem, this]
set_option maxRecDepth 100000 in
set_option maxHeartbeats 8000000 in
theorem new_any (w : World) :
    Calls Try.prog 25 #[] w fun e w' => e = .returned (.pointer (some ⟨w.heap.size, 0, none⟩)) ∧ Tabs w' w.heap.size ∧ Below w.heap.size w w' := by
  go_enter Try.func25, Try.ntmps25
  go_upto_region 2 with fail
  have HB := hide (belA w (.cells Try.zeroCells91 91))
  have HM := hide (mt0 w)
  generalize w.alloc (.cells Try.zeroCells91 91) = w1 at *
  generalize hb : w.heap.size = b at *
  go_wp2_with fail
  refine (fillDirections_any _ b _ _ HM.out).mono ?_
  rintro e w2 ⟨rfl, X, Y, hm2, hg2, hb2⟩
  obtain ⟨Z, hm2'⟩ := hm2.toZ
  have HM2 := hide hm2'
  have HG := hide hg2
  have HB2 : Hid (Below b w w2) := HB.out.trans hb2
  clear hm2 hm2' hg2 hb2 HB HM
  go_wp2_with fail
  refine (fillLoss_any _ b _ _ _ HM2.out).mono ?_
  rintro e w3 ⟨rfl, Z3, hm3, hl3, hb3⟩
  have HM3 := hide hm3
  have HL3 := hide hl3
  have HB3 : Hid (Below b w w3) := HB2.out.trans hb3
  clear hm3 hl3 hb3 HM2 HB2
  go_wp2_with fail
  refine (fillGain_any _ b _ _ _ HM3.out HL3.out).mono ?_
  rintro e w4 ⟨rfl, Z4, hm4, hl4, hb4⟩
  have HB4 : Hid (Below b w w4) := HB3.out.trans hb4
  have HT : Hid (Tabs w4 b) := by
    refine ⟨fun s hs => ?_, fun s hs => ?_, fun s hs => ?_, fun s hs => ?_⟩
    · rw [hm4.mt.x s hs, (HG.out s hs).1]
    · rw [hm4.mt.y s hs, (HG.out s hs).2]
    · rw [hm4.zz s (by omega), hl4.1 s hs]
    · rw [hm4.zzg s hs, hl4.2 s hs]
  clear hm4 hl4 hb4
  go_wp2
  go_ret
  exact ⟨by rw [hb]; rfl, by rw [hb]; exact HT.out, by rw [hb]; exact HB4.out⟩
theorem normStep_any (w : World) (a : Int) : Calls Try.prog 90 #[.int .i64 a] w fun e w' => e = .returned (.int .i64 (a % 4096)) ∧ w' = w := by
  have h := and4095 a
  go_enter Try.func90, Try.ntmps90
  go_wp2
  go_ret
  exact ⟨by rw [← h]; rfl, rfl⟩
/-- Dir at any step that is not negative. -/
theorem dir_any (w : World) (b a s : Nat) (hs : s = a % 4096) (h : Tabs w b) : Calls Try.prog 43 #[.pointer (some ⟨b, 0, none⟩), .int .i64 a] w fun e w' => e = .returned (.tuple #[.int .i64 (dirP s).1, .int .i64 (dirP s).2]) ∧ Below w.heap.size w w' ∧ Tabs w' b := by
  have hs4 : s < 4096 := by omega
  have x := h.drew.x s hs4
  have y := h.drew.y s hs4
  have HT := hide h
  have hm : (a : Int) % 4096 = (s : Int) := by omega
  have hm2 : (s : Int) < 4096 := by omega
  clear h hs
  generalize (dirP s).1 = X at *
  generalize (dirP s).2 = Y at *
  go_enter Try.func43, Try.ntmps43
  go_wp2_with fail
  refine (normStep_any _ a).mono ?_
  rintro e w' ⟨rfl, rfl⟩
  rw [hm]
  clear hm
  go_upto_region 2 with fail
  go_region
  all_goals
    have HB : Hid (Below w'.heap.size w' w'.drew) := (Below.refl _ _).drew
    go_wp2
    exact bodyPost_ret (v := .tuple #[.int .i64 X, .int .i64 Y]) (by simp [results, Try.results43, go_sem]) rfl ⟨rfl, HB.out, HT.out.drew⟩
end Go.Proofs.Qxb6500775a
