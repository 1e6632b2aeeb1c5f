import Derived.Test.Qxb6500773aDr0
import Derived.Test.Qxb6500773aLoB
namespace Go.Proofs.Qxb6500773a
open Go.RowKit

/-- A list of ints. -/
def XL (w : World) (a : Option Addr) (n : Nat) (X : Nat → Int) : Prop := ∀ i, i < n → ∃ g off, a = some ⟨g, off, none⟩ ∧ w.cell? ⟨g, off + i, none⟩ = some (.int .i64 (X i)) ∧ -9223372036854775808 ≤ X i ∧ X i < 9223372036854775808
theorem XL.below {w w' : World} {a : Option Addr} {n : Nat} {X : Nat → Int} (h : XL w a n X) (k : Below w.heap.size w w') : XL w' a n X := fun i hi => by
  obtain ⟨g, off, e, hc, hr⟩ := h i hi
  exact ⟨g, off, e, cellKeep k hc, hr⟩
set_option linter.unusedSimpArgs false in
set_option maxRecDepth 100000 in
set_option maxHeartbeats 4000000 in
/-- cnflaw.LiteralOverflowIsAnError -/
theorem literalOverflow_walk (w : World) (a : Option Addr) (len cap : Nat) (f : Nat → OpV) (hn : len ≤ 9223372036854775807) (hops : OpsAt w a len f) :
    Calls Try.prog 5 #[.slice a len cap] w fun e w' => e = .returned (.bool true) ∧ Below w.heap.size w w' := by
  have HO := hide hops
  have cs := small_any w a len cap f hops hn
  clear hops
  go_enter Try.func5, Try.ntmps5
  go_wp2_with fail
  refine cs.mono ?_
  rintro e w' ⟨sb, rfl, hw, hsm⟩
  rw [hw]
  clear hw w' cs
  cases sb
  · go_wp2
    go_ret
    exact ⟨rfl, Below.refl _ _⟩
  · obtain ⟨hl, hsm⟩ := hsm rfl
    have HS := hide hsm
    clear hsm
    go_wp2
    go_loopw [4, 6, 12] (fun _ _ s12 wx => ∃ (i : Nat), s12 = .int .i64 i ∧ i ≤ len ∧ Below w.heap.size w wx) (fun _ _ s12 _ => len - (intOf s12).toNat)
    case atStart => exact ⟨0, rfl, Nat.zero_le _, Below.refl _ _⟩
    case round =>
      obtain ⟨i, rfl, hi, hb⟩ := hrel
      have HB := hide hb
      clear hb
      by_cases hlt : i < len
      · obtain ⟨b, off, ea, hop⟩ := (HO.out.below HB.out) i hlt
        cases ea
        have HT := hide (HS.out i hlt)
        have HOP := hide hop
        have c0 := hop.c0
        have c1 := hop.c1
        have c2 := hop.c2
        have c3 := hop.c3
        clear hop
        generalize f i = v at c0 c1 c2 c3 HT HOP
        obtain ⟨kd, av, la, ln, lc, X, ta, tn, tc, T⟩ := v
        dsimp only at c0 c1 c2 c3 HT HOP
        have h1 : decide ((i : Int) < (len : Int)) = true := by simp; omega
        have h1n : decide (i < len) = true := by simp; omega
        have h2 : decide ((i : Int) < 0) = false := by simp
        have h3 : (i : Int) < (len : Int) := by omega
        have h4 : IntKind.i64.wrap ((i : Int) + 1) = (i : Int) + 1 := by rw [IntKind.wrap_i64]; omega
        go_upto_region 6 with fail
        have HBE := hide (be1 wr (.cells #[.int .i64 kd, .int .i64 av, .slice la ln lc, .slice ta tn tc] 28))
        have x1 : (wr.alloc (.cells #[.int .i64 kd, .int .i64 av, .slice la ln lc, .slice ta tn tc] 28)).cell? ⟨wr.heap.size, 1, none⟩ = some (.int .i64 av) := by simp [go_sem]
        have x2 : (wr.alloc (.cells #[.int .i64 kd, .int .i64 av, .slice la ln lc, .slice ta tn tc] 28)).cell? ⟨wr.heap.size, 2, none⟩ = some (.slice la ln lc) := by simp [go_sem]
        have x3 : (wr.alloc (.cells #[.int .i64 kd, .int .i64 av, .slice la ln lc, .slice ta tn tc] 28)).cell? ⟨wr.heap.size, 3, none⟩ = some (.slice ta tn tc) := by simp [go_sem]
        have HBT := hide (HOP.out.bt.below HBE.out)
        have HXL := hide (show XL wr la ln X from HOP.out.li)
        replace HXL := hide (HXL.out.below HBE.out)
        have HRA := hide HOP.out.ra
        replace HB := hide (lec HB.out HBE.out)
        clear c0 c1 c2 c3 HOP HBE
        generalize wr.alloc (.cells #[.int .i64 kd, .int .i64 av, .slice la ln lc, .slice ta tn tc] 28) = w1 at *
        generalize wr.heap.size = x at *
        dsimp only at HRA
        obtain ⟨ng, hng⟩ : ∃ ng, decide (av < 0) = ng := ⟨_, rfl⟩
        go_wp2_with fail
        refine (number1_any w1 av HRA.out).mono ?_
        rintro e w2 ⟨rfl, bl⟩
        replace HB := hide (lec HB.out bl)
        replace HBT := hide (HBT.out.below bl)
        replace HXL := hide (HXL.out.below bl)
        replace x1 := cellKeep bl x1
        replace x2 := cellKeep bl x2
        replace x3 := cellKeep bl x3
        clear bl
        go_wp2_with fail
        refine (packed_any w2 av HRA.out).mono ?_
        rintro e w3 ⟨rfl, bl⟩
        replace HB := hide (lec HB.out bl)
        replace HBT := hide (HBT.out.below bl)
        replace HXL := hide (HXL.out.below bl)
        replace x1 := cellKeep bl x1
        replace x2 := cellKeep bl x2
        replace x3 := cellKeep bl x3
        clear bl
        go_wp2_with fail
        refine (numeral_any w3 ta tn tc T ng HBT.out HT.out.2).mono ?_
        rintro e w4 ⟨rfl, bl⟩
        replace HB := hide (lec HB.out bl)
        replace HXL := hide (HXL.out.below bl)
        replace x2 := cellKeep bl x2
        clear bl
        clear x1 x3 HBT hng
        go_wp2
        go_loopw [6, 38] (fun _ s38 wx => ∃ (j : Nat), s38 = .int .i64 j ∧ j ≤ ln ∧ Hid (XL wx la ln X) ∧ Hid (Below w.heap.size w wx)) (fun _ s38 _ => ln - (intOf s38).toNat)
        case atStart => exact ⟨0, rfl, Nat.zero_le _, HXL, HB⟩
        case round =>
          clear HB HXL
          obtain ⟨j, rfl, hj, HXL, HB⟩ := hrel
          by_cases hjl : j < ln
          · obtain ⟨g, og, ea, cj, hr⟩ := HXL.out j hjl
            cases ea
            have HR := hide hr
            clear hr
            generalize X j = d at cj HR
            have i1 : decide ((j : Int) < (ln : Int)) = true := by simp; omega
            have i1n : decide (j < ln) = true := by simp; omega
            have i2 : decide ((j : Int) < 0) = false := by simp
            have i3 : (j : Int) < (ln : Int) := by omega
            have i4 : IntKind.i64.wrap ((j : Int) + 1) = (j : Int) + 1 := by rw [IntKind.wrap_i64]; have := HT.out.1; omega
            go_wp2_with fail
            refine (number1_any _ d HR.out).mono ?_
            rintro e w5 ⟨rfl, bl⟩
            replace HB := hide (lec HB.out bl)
            replace HXL := hide (HXL.out.below bl)
            clear bl
            go_wp2_with fail
            refine (packed_any w5 d HR.out).mono ?_
            rintro e w6 ⟨rfl, bl⟩
            replace HB := hide (lec HB.out bl)
            replace HXL := hide (HXL.out.below bl)
            clear bl
            go_wp2
            go_roundw
            case rel => exact ⟨j + 1, by simp, by omega, HXL, HB⟩
            case measure => simp [intOf]; omega
          · have i1 : decide ((j : Int) < (ln : Int)) = false := by simp; omega
            have i1n : decide (j < ln) = false := by simp; omega
            go_wp2
            go_roundw
            case rel => exact ⟨i + 1, by simp, by omega, HB.out⟩
            case measure => simp [intOf]; omega
      · have h1 : decide ((i : Int) < (len : Int)) = false := by simp; omega
        have h1n : decide (i < len) = false := by simp; omega
        go_wp2
        go_ret
        exact ⟨rfl, HB.out⟩
end Go.Proofs.Qxb6500773a
