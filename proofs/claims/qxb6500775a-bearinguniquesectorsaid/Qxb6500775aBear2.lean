import Derived.Test.Qxb6500775aBear
namespace Go.Proofs.Qxb6500775a
open Go.RowKit

theorem Tabs.lt {w : World} {b : Nat} (h : Tabs w b) : b < w.heap.size := World.block_lt_of_cell? _ _ (h.x 0 (by omega))
set_option maxRecDepth 100000 in
set_option maxHeartbeats 4000000 in
theorem floorRow_any (w : World) (b : Nat) (u v : Int) (hu : Word u) (hv : Word v) (h : Tabs w b) :
    Calls Try.prog 109 #[.pointer (some ⟨b, 0, none⟩), .int .u64 u, .int .u64 v] w fun e w' => ∃ r : Nat, e = .returned (.int .i64 r) ∧ FloorAt u v r ∧ Below w.heap.size w w' ∧ Tabs w' b := by
  have HT := hide h
  clear h
  go_enter Try.func109, Try.ntmps109
  go_wp2
  go_loopw [7, 8] (fun x y wr => ∃ lo hi : Nat, x = .int .i64 lo ∧ y = .int .i64 hi ∧ lo < hi ∧ hi ≤ 513 ∧ Hid ((lo = 0 ∨ v * XP lo ≤ u * YP lo) ∧ (hi = 513 ∨ u * YP hi < v * XP hi)) ∧ Below w.heap.size w wr ∧ Tabs wr b) (fun x y _ => (intOf y - intOf x).toNat)
  case atStart => exact ⟨0, 513, rfl, rfl, by omega, by omega, hide ⟨.inl rfl, .inl rfl⟩, Below.refl _ _, HT.out⟩
  case round =>
    clear HT
    obtain ⟨lo, hi, rfl, rfl, hlt, hhi, HI, hb, ht⟩ := hrel
    have HB := hide hb
    have HT := hide ht
    clear hb ht
    by_cases hgo : lo + 1 < hi
    · have hg1 : 1 < (hi : Int) - (lo : Int) := by omega
      obtain ⟨mid, hmid⟩ : ∃ m : Nat, m = (lo + hi) / 2 := ⟨_, rfl⟩
      have e1 : ((lo : Int) + (hi : Int)) / 2 = (mid : Int) := by omega
      have e2 : ((lo : Int) + (hi : Int)).tdiv 2 = (mid : Int) := by rw [Int.tdiv_eq_ediv_of_nonneg (by omega)]; exact e1
      have m1 : lo < mid := by omega
      have m2 : mid < hi := by omega
      have m3 : mid < 4096 := by omega
      have x := HT.out.drew.x mid m3
      have y := HT.out.drew.y mid m3
      have o := oct_at mid (by omega)
      have HO := hide o
      have HX : Hid ((dirP mid).1 = XP mid) := hide rfl
      have HY : Hid ((dirP mid).2 = YP mid) := hide rfl
      rw [HX.out] at x
      rw [HY.out] at y
      clear HX HY o hmid
      have hm64 : (mid : Int) < 4096 := by omega
      by_cases hc : v * XP mid ≤ u * YP mid
      · have HC := hide hc
        have hd : decide (v * XP mid ≤ u * YP mid) = true := by simpa using hc
        have hcall := fun w => hide (productLeq_any w v (XP mid) u (YP mid) hv hu HO.out.1 (by have := HO.out; omega) (by have := HO.out; omega) HO.out.2.2.1)
        rw [hd] at hcall
        clear hd hc hgo
        obtain ⟨X, hX⟩ : ∃ X, XP mid = X := ⟨_, rfl⟩
        obtain ⟨Y, hY⟩ : ∃ Y, YP mid = Y := ⟨_, rfl⟩
        rw [hX, hY] at HO hcall
        rw [hX] at x
        rw [hY] at y
        clear hX hY
        go_upto_region 5 with fail
        go_region_law (first
          | (refine step_call rfl 124 #[.int .u64 v, .int .i64 X, .int .u64 u, .int .i64 Y] ?_ (hcall _).out ?_; (focus (simp [go_sem]; done)); rintro e w3 ⟨rfl, hb3⟩; refine ⟨_, rfl, ?_⟩; have HT3 := hide (HT.out.drew.below hb3); have HB3 : Hid (Below w.heap.size w w3) := HB.out.trans ((of_drew hb3).mono HB.out.size); clear hb3))
        all_goals
          clear x y hcall
          go_wp2
          go_roundw
          case rel => exact ⟨mid, hi, rfl, rfl, m2, hhi, hide ⟨.inr HC.out, HI.out.2⟩, HB3.out, HT3.out⟩
          case measure => simp [intOf]; omega
      · have HC := hide hc
        have hd : decide (v * XP mid ≤ u * YP mid) = false := by simpa using hc
        have hcall := fun w => hide (productLeq_any w v (XP mid) u (YP mid) hv hu HO.out.1 (by have := HO.out; omega) (by have := HO.out; omega) HO.out.2.2.1)
        rw [hd] at hcall
        clear hd hc hgo
        obtain ⟨X, hX⟩ : ∃ X, XP mid = X := ⟨_, rfl⟩
        obtain ⟨Y, hY⟩ : ∃ Y, YP mid = Y := ⟨_, rfl⟩
        rw [hX, hY] at HO hcall
        rw [hX] at x
        rw [hY] at y
        clear hX hY
        go_upto_region 5 with fail
        go_region_law (first
          | (refine step_call rfl 124 #[.int .u64 v, .int .i64 X, .int .u64 u, .int .i64 Y] ?_ (hcall _).out ?_; (focus (simp [go_sem]; done)); rintro e w3 ⟨rfl, hb3⟩; refine ⟨_, rfl, ?_⟩; have HT3 := hide (HT.out.drew.below hb3); have HB3 : Hid (Below w.heap.size w w3) := HB.out.trans ((of_drew hb3).mono HB.out.size); clear hb3))
        all_goals
          clear x y hcall
          go_wp2
          go_roundw
          case rel => exact ⟨lo, mid, rfl, rfl, m1, by omega, hide ⟨HI.out.1, .inr (by have := HC.out; omega)⟩, HB3.out, HT3.out⟩
          case measure => simp [intOf]; omega
    · have hg1 : ¬ 1 < (hi : Int) - (lo : Int) := by omega
      go_wp2
      go_ret
      refine ⟨lo, rfl, ⟨by omega, HI.out.1, ?_⟩, HB.out, HT.out⟩
      have he : hi = lo + 1 := by omega
      rcases HI.out.2 with z | z
      · left; omega
      · right; rw [he] at z; exact z
set_option maxRecDepth 100000 in
set_option maxHeartbeats 4000000 in
theorem ceilRow_any (w : World) (b : Nat) (u v : Int) (hu : Word u) (hv : Word v) (h : Tabs w b) :
    Calls Try.prog 110 #[.pointer (some ⟨b, 0, none⟩), .int .u64 u, .int .u64 v] w fun e w' => ∃ r : Nat, e = .returned (.int .i64 r) ∧ CeilAt u v r ∧ Below w.heap.size w w' ∧ Tabs w' b := by
  have HT := hide h
  clear h
  go_enter Try.func110, Try.ntmps110
  go_wp2
  go_loopw [7, 8] (fun x y wr => ∃ (lo : Int) (hi : Nat), x = .int .i64 lo ∧ y = .int .i64 hi ∧ -1 ≤ lo ∧ lo < (hi : Int) ∧ hi ≤ 512 ∧ Hid ((lo = -1 ∨ ∃ l : Nat, lo = l ∧ v * XP l < u * YP l) ∧ (hi = 512 ∨ u * YP hi ≤ v * XP hi)) ∧ Below w.heap.size w wr ∧ Tabs wr b) (fun x y _ => (intOf y - intOf x).toNat)
  case atStart => exact ⟨-1, 512, rfl, rfl, by omega, by omega, by omega, hide ⟨.inl rfl, .inl rfl⟩, Below.refl _ _, HT.out⟩
  case round =>
    clear HT
    obtain ⟨lo, hi, rfl, rfl, hlo, hlt, hhi, HI, hb, ht⟩ := hrel
    have HB := hide hb
    have HT := hide ht
    clear hb ht
    by_cases hgo : lo + 1 < (hi : Int)
    · have hg1 : 1 < (hi : Int) - lo := by omega
      obtain ⟨mid, hmid⟩ : ∃ m : Nat, m = ((lo + hi) / 2).toNat := ⟨_, rfl⟩
      have e1 : (lo + (hi : Int)) / 2 = (mid : Int) := by omega
      have e2 : (lo + (hi : Int)).tdiv 2 = (mid : Int) := by rw [Int.tdiv_eq_ediv_of_nonneg (by omega)]; exact e1
      have m1 : lo < (mid : Int) := by omega
      have m2 : mid < hi := by omega
      have m3 : mid < 4096 := by omega
      have x := HT.out.drew.x mid m3
      have y := HT.out.drew.y mid m3
      have o := oct_at mid (by omega)
      have HO := hide o
      have HX : Hid ((dirP mid).1 = XP mid) := hide rfl
      have HY : Hid ((dirP mid).2 = YP mid) := hide rfl
      rw [HX.out] at x
      rw [HY.out] at y
      clear HX HY o hmid
      have hm64 : (mid : Int) < 4096 := by omega
      by_cases hc : u * YP mid ≤ v * XP mid
      · have HC := hide hc
        have hd : decide (u * YP mid ≤ v * XP mid) = true := by simpa using hc
        have hcall := fun w => hide (productLeq_any w u (YP mid) v (XP mid) hu hv (by have := HO.out; omega) HO.out.2.2.1 HO.out.1 (by have := HO.out; omega))
        rw [hd] at hcall
        clear hd hc hgo
        obtain ⟨X, hX⟩ : ∃ X, XP mid = X := ⟨_, rfl⟩
        obtain ⟨Y, hY⟩ : ∃ Y, YP mid = Y := ⟨_, rfl⟩
        rw [hX, hY] at HO hcall
        rw [hX] at x
        rw [hY] at y
        clear hX hY
        go_upto_region 5 with fail
        go_region_law (first
          | (refine step_call rfl 124 #[.int .u64 u, .int .i64 Y, .int .u64 v, .int .i64 X] ?_ (hcall _).out ?_; (focus (simp [go_sem]; done)); rintro e w3 ⟨rfl, hb3⟩; refine ⟨_, rfl, ?_⟩; have HT3 := hide (HT.out.drew.below hb3); have HB3 : Hid (Below w.heap.size w w3) := HB.out.trans ((of_drew hb3).mono HB.out.size); clear hb3))
        all_goals
          clear x y hcall
          go_wp2
          go_roundw
          case rel => exact ⟨lo, mid, rfl, rfl, hlo, m1, by omega, hide ⟨HI.out.1, .inr HC.out⟩, HB3.out, HT3.out⟩
          case measure => simp [intOf]; omega
      · have HC := hide hc
        have hd : decide (u * YP mid ≤ v * XP mid) = false := by simpa using hc
        have hcall := fun w => hide (productLeq_any w u (YP mid) v (XP mid) hu hv (by have := HO.out; omega) HO.out.2.2.1 HO.out.1 (by have := HO.out; omega))
        rw [hd] at hcall
        clear hd hc hgo
        obtain ⟨X, hX⟩ : ∃ X, XP mid = X := ⟨_, rfl⟩
        obtain ⟨Y, hY⟩ : ∃ Y, YP mid = Y := ⟨_, rfl⟩
        rw [hX, hY] at HO hcall
        rw [hX] at x
        rw [hY] at y
        clear hX hY
        go_upto_region 5 with fail
        go_region_law (first
          | (refine step_call rfl 124 #[.int .u64 u, .int .i64 Y, .int .u64 v, .int .i64 X] ?_ (hcall _).out ?_; (focus (simp [go_sem]; done)); rintro e w3 ⟨rfl, hb3⟩; refine ⟨_, rfl, ?_⟩; have HT3 := hide (HT.out.drew.below hb3); have HB3 : Hid (Below w.heap.size w w3) := HB.out.trans ((of_drew hb3).mono HB.out.size); clear hb3))
        all_goals
          clear x y hcall
          go_wp2
          go_roundw
          case rel => exact ⟨(mid : Int), hi, rfl, rfl, by omega, by omega, hhi, hide ⟨.inr ⟨mid, rfl, by have := HC.out; omega⟩, HI.out.2⟩, HB3.out, HT3.out⟩
          case measure => simp [intOf]; omega
    · have hg1 : ¬ 1 < (hi : Int) - lo := by omega
      go_wp2
      go_ret
      refine ⟨hi, rfl, ⟨by omega, HI.out.2, ?_⟩, HB.out, HT.out⟩
      rcases HI.out.1 with z | ⟨l, z1, z2⟩
      · left; omega
      · right; rw [show hi - 1 = l by omega]; exact z2

/-! ### fold -/
def foldP (west : Bool) (mx : Int) (south : Bool) (my : Int) : Int × Int × Int :=
  if west = false ∧ south = false ∧ my ≠ 0 then (0, mx, my) else if west = false ∧ mx ≠ 0 then (1, my, mx) else if south = true then (2, mx, my) else (3, my, mx)
theorem fold_any (w : World) (west south : Bool) (mx my : Int) :
    Calls Try.prog 70 #[.bool west, .int .u64 mx, .bool south, .int .u64 my] w fun e w' => e = .returned (.tuple #[.int .i64 (foldP west mx south my).1, .int .u64 (foldP west mx south my).2.1, .int .u64 (foldP west mx south my).2.2]) ∧ w' = w := by
  by_cases h1 : mx = 0 <;> by_cases h2 : my = 0 <;> cases west <;> cases south
  all_goals
    first
      | (have n1 : (mx != 0) = true := by simpa using h1)
      | (have n1 : (mx != 0) = false := by simpa using h1)
    first
      | (have n2 : (my != 0) = true := by simpa using h2)
      | (have n2 : (my != 0) = false := by simpa using h2)
    go_enter Try.func70, Try.ntmps70
    go_wp2
    refine bodyPost_ret (v := .tuple #[.int .i64 _, .int .u64 _, .int .u64 _]) (by simp [results, Try.results70, go_sem] <;> exact ⟨rfl, rfl, rfl⟩) rfl ⟨?_, rfl⟩
    simp [foldP, h1, h2]
end Go.Proofs.Qxb6500775a
