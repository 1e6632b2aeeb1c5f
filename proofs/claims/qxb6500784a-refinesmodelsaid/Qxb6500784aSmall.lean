import Derived.Test.Qxb6500784aBuildP
namespace Go.Proofs.Qxb6500784a
open Go.RowKit

def SomeBool (w : World) (e : Ending) (w' : World) : Prop := ∃ b : Bool, e = .returned (.bool b) ∧ w' = w
attribute [-simp] Try.isAgg95 Try.sizeOf95 Try.typeInfo95
set_option maxRecDepth 100000 in
set_option maxHeartbeats 4000000 in
theorem small_any (w : World) (a : Option Addr) (n cap : Nat) (O : Nat → OpR) (hn : n ≤ 9223372036854775807) (hO : OpsAt w a n O) :
    Calls Try.prog 12 #[.slice a n cap] w (SomeBool w) := by
  have HO := hide hO
  clear hO
  go_enter Try.func12, Try.ntmps12
  by_cases hbig : (n : Int) > 65536
  · go_wp2
    go_ret
    exact ⟨_, rfl, rfl⟩
  go_wp2
  go_loop [3, 4] (fun x i => (∃ z : Int, x = .int .i64 z) ∧ ∃ k : Nat, k ≤ n ∧ i = .int .i64 k) (fun _ i => n - (intOf i).toNat)
  case atStart => exact ⟨⟨_, rfl⟩, 0, Nat.zero_le _, rfl⟩
  case round =>
    obtain ⟨⟨z, rfl⟩, k, hk, rfl⟩ := hrel
    by_cases hlt : k < n
    · obtain ⟨b, off, rfl, hc, hop⟩ := HO.out k hlt
      have c1 := hc 1 (by omega)
      rw [hop.v1] at c1
      have hln := hop.ln
      have HLg := hide hop.legs
      clear hc hop
      generalize (O k).la = la at *
      generalize (O k).ln = ln at *
      generalize (O k).lc = lc at *
      generalize (O k).L = L at *
      go_upto_if 26 with fail
      generalize wrap64 (z + (ln : Int)) = y
      by_cases hy : 65536 < y
      · go_wp2
        go_ret
        exact ⟨_, rfl, rfl⟩
      · rw [decide_eq_false hy]
        go_wp2
        go_loop [3, 5] (fun x i => (∃ z : Int, x = .int .i64 z) ∧ ∃ k2 : Nat, k2 ≤ ln ∧ i = .int .i64 k2) (fun _ i => ln - (intOf i).toNat)
        case atStart => exact ⟨⟨_, rfl⟩, 0, Nat.zero_le _, rfl⟩
        case round =>
          obtain ⟨⟨z2, rfl⟩, k2, hk2, rfl⟩ := hrel
          by_cases hlt2 : k2 < ln
          · obtain ⟨b2, off2, rfl, hc2, hleg⟩ := HLg.out k2 hlt2
            have c2 := hc2 85 (by omega)
            rw [hleg.v85] at c2
            have hnn := hleg.nn
            clear hc2 hleg
            generalize (L k2).na = na at *
            generalize (L k2).nn = nn at *
            generalize (L k2).nc = nc at *
            go_wp2_with fail
            simp only [Try.sizeOf95, Result.andThen]
            rw [Oper.upon_value]
            go_upto_if 52 with fail
            generalize wrap64 (z2 + (nn : Int)) = y2
            by_cases hy2 : 65536 < y2
            · go_wp2
              go_ret
              exact ⟨_, rfl, rfl⟩
            · go_wp2
              go_round
              case rel => exact ⟨⟨_, rfl⟩, k2 + 1, by omega, by go_num⟩
              case measure => simp [intOf]; omega
          · go_wp2
            go_round
            case rel => exact ⟨⟨_, rfl⟩, k + 1, by omega, by go_num⟩
            case measure => simp [intOf]; omega
    · go_wp2
      go_ret
      exact ⟨_, rfl, rfl⟩
set_option maxRecDepth 100000 in
set_option maxHeartbeats 4000000 in
theorem needs_any (w : World) (a : Option Addr) (n cap i j : Nat) (L : Nat → Leg) (hL : LegsAt w a n L) (hi : i < n) (hj : j < n) (hx : ∃ k, k < (L i).nn ∧ (L i).nd k = (L j).id) :
    Calls Try.prog 33 #[.agg #[.slice a n cap], .int .i64 i, .int .i64 j] w fun e w' => e = .returned (.bool true) ∧ Below w.heap.size w w' := by
  obtain ⟨W, hW⟩ : ∃ W, W = (w.alloc (.cells #[.slice a n cap] 27)) := ⟨_, rfl⟩
  have ca : W.cell? ⟨w.heap.size, 0, none⟩ = some (.slice a n cap) := by rw [hW]; simp [go_sem]
  have HB : Hid (Below w.heap.size w W) := by rw [hW]; exact (Below.refl _ _).alloc (Nat.le_refl _) _
  have HL := hide (hL.below HB.out)
  have HX := hide hx
  clear hx hL
  obtain ⟨b, off, rfl, hc, hleg⟩ := HL.out i hi
  obtain ⟨_, _, e2, hc2, hleg2⟩ := HL.out j hj
  injection e2 with e2
  injection e2 with e2 e3
  subst e2 e3
  have c85 := hc 85 (by omega)
  have c0 := hc2 0 (by omega)
  rw [hleg2.v0, Nat.add_zero] at c0
  rw [hleg.v85] at c85
  have hnn := hleg.nn
  have HND := hide hleg.nd
  clear hc hc2 hleg hleg2
  go_enter Try.func33, Try.ntmps33
  go_upto_region 1 with fail
  rw [← hW]
  clear hW
  generalize (L i).na = na at *
  go_wp2_with fail
  simp only [Try.sizeOf95, Result.andThen]
  rw [Oper.upon_value]
  go_wp2_with fail
  go_loop [16] (fun s => ∃ k : Nat, k ≤ (L i).nn ∧ s = .int .i64 k ∧ ∀ k', k' < k → (L i).nd k' ≠ (L j).id) (fun s => (L i).nn - (intOf s).toNat)
  case atStart => exact ⟨0, Nat.zero_le _, rfl, fun k h => by omega⟩
  case round =>
    obtain ⟨k, hk, rfl, hno⟩ := hrel
    have HN := hide hno
    clear hno
    by_cases hlt : k < (L i).nn
    · obtain ⟨b', off', rfl, hcq, hr0, hr1⟩ := HND.out k hlt
      go_wp2_with fail
      simp only [Try.sizeOf95, Result.andThen]
      rw [Oper.upon_value]
      by_cases he : (L i).nd k = (L j).id
      · go_wp2
        go_ret
        exact ⟨rfl, HB.out⟩
      · go_wp2
        go_round
        case rel => exact ⟨k + 1, by omega, by go_num, fun k' hk' => by rcases Nat.lt_or_ge k' k with h | h; exact HN.out k' h; rw [show k' = k by omega]; exact he⟩
        case measure => simp [intOf]; omega
    · obtain ⟨k0, hk0, e0⟩ := HX.out
      exact absurd e0 (HN.out k0 (by omega))
end Go.Proofs.Qxb6500784a
