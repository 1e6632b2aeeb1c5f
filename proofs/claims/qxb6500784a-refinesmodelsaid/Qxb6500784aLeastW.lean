import Derived.Test.Qxb6500784aSrch
import Derived.Test.Qxb6500784aLeastP
import Derived.Test.Qxb6500784aSmall
namespace Go.Proofs.Qxb6500784a
open Go.RowKit

theorem least_any (w : World) (a : Option Addr) (n cap : Nat) (L : Nat → Leg) (h8 : n ≤ 8) (hL : LegsAt w a n L) :
    Calls Try.prog 16 #[.agg #[.slice a n cap]] w fun e w' => Below w.heap.size w w' ∧ ((∃ r ao cp, srch n L n [] = some r ∧ e = .returned (.tuple #[.slice ao r.length cp, .bool true]) ∧ PermAt w' ao cp r) ∨ (srch n L n [] = none ∧ ∃ v, e = .returned (.tuple #[v, .bool false]))) := by
  have HL := hide hL
  clear hL
  go_enter Try.func16, Try.ntmps16
  go_wp2_with fail
  have HB0 : Hid (Below w.heap.size w (w.alloc (.cells #[.slice a n cap] 27))) := (Below.refl _ _).alloc (Nat.le_refl _) _
  refine (search_any n L h8 n _ a cap none 0 [] (by simp) (fun x h => by simp at h) (HL.out.below HB0.out) ⟨by simp, fun j x h => by simp at h⟩ (fun _ => ⟨rfl, rfl⟩)).mono ?_
  rintro e w1 ⟨hb, hres⟩
  have HB1 : Hid (Below w.heap.size w w1) := HB0.out.trans (hb.mono HB0.out.size)
  clear hb HB0
  rcases hres with ⟨r, ao, cp, hr, rfl, hp⟩ | ⟨hr, v, rfl⟩
  · have HR := hide hr
    have HP := hide hp
    clear hr hp
    go_wp2
    exact bodyPost_ret (v := .tuple #[.slice ao r.length cp, .bool true]) (by simp [results, Try.results16, go_sem]) rfl ⟨HB1.out, Or.inl ⟨r, ao, cp, HR.out, rfl, HP.out⟩⟩
  · have HR := hide hr
    clear hr
    go_wp2
    exact bodyPost_ret (v := .tuple #[v, .bool false]) (by simp [results, Try.results16, go_sem]) rfl ⟨HB1.out, Or.inr ⟨HR.out, v, rfl⟩⟩
theorem validate_any (w : World) (a : Option Addr) (n cap : Nat) (L : Nat → Leg) (hn : n ≤ 9223372036854775807) (hL : LegsAt w a n L) :
    Calls Try.prog 14 #[.agg #[.slice a n cap]] w fun e w' => e = .returned (.int .i64 (ordCode n L)) ∧ Below w.heap.size w w' := by
  have HL := hide hL
  clear hL
  go_enter Try.func14, Try.ntmps14
  go_wp2_with fail
  have HB0 : Hid (Below w.heap.size w (w.alloc (.cells #[.slice a n cap] 27))) := (Below.refl _ _).alloc (Nat.le_refl _) _
  refine (order_any _ a n cap L hn (HL.out.below HB0.out)).mono ?_
  rintro e w1 ⟨v, rfl, hb, -, -⟩
  have HB1 : Hid (Below w.heap.size w w1) := HB0.out.trans (hb.mono HB0.out.size)
  clear hb HB0
  go_wp2
  go_ret
  exact ⟨rfl, HB1.out⟩
theorem same_any (w : World) (ao ao' : Option Addr) (cp cp' : Nat) (V : List Nat) (h8 : V.length ≤ 8) (h1 : PermAt w ao cp V) (h2 : PermAt w ao' cp' V) :
    Calls Try.prog 17 #[.slice ao V.length cp, .slice ao' V.length cp'] w fun e w' => e = .returned (.bool true) ∧ Below w.heap.size w w' := by
  have H1 := hide h1
  have H2 := hide h2
  clear h1 h2
  go_enter Try.func17, Try.ntmps17
  go_wp2
  go_loopw [13] (fun s wr => ∃ k : Nat, k ≤ V.length ∧ s = .int .i64 k ∧ Below w.heap.size w wr) (fun s _ => V.length - (intOf s).toNat)
  case atStart => exact ⟨0, Nat.zero_le _, rfl, Below.refl _ _⟩
  case round =>
    obtain ⟨k, hk, rfl, hbel⟩ := hrel
    have HB := hide hbel
    clear hbel
    by_cases hlt : k < V.length
    · obtain ⟨x, hx⟩ : ∃ x, V[k]? = some x := ⟨_, List.getElem?_eq_getElem hlt⟩
      obtain ⟨b, off, rfl, c1⟩ := (H1.out.below HB.out).2 k x hx
      obtain ⟨b', off', rfl, c2⟩ := (H2.out.below HB.out).2 k x hx
      clear hx
      go_upto_region 6 with fail
      go_quiet (fail)
      have HBd : Hid (Below w.heap.size w (wr.drewN nq)) := HB.out.trans (below_drewN _ _ _)
      go_wp2
      go_roundw
      case rel => exact ⟨k + 1, by omega, by go_num, HBd.out⟩
      case measure => simp [intOf]; omega
    · go_wp2
      go_ret
      exact ⟨rfl, HB.out⟩
end Go.Proofs.Qxb6500784a
