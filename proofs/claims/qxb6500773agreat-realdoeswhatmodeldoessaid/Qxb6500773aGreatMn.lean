import Derived.Test.Qxb6500773aGreatMm
namespace Go.Proofs.Qxb6500773aGreat
open Go.RowKit

/-- a row of bytes that is read -/
def UL (w : World) (a : Option Addr) (X : List Int) : Prop := ∀ (j : Nat) (x : Int), X[j]? = some x → ∃ g off, a = some ⟨g, off, none⟩ ∧ w.cell? ⟨g, off + j, none⟩ = some (.int .u8 x)
theorem UL.keep {w w' : World} {a : Option Addr} {X : List Int} (h : UL w a X) (k : Ex (fun _ => False) w w') : UL w' a X := fun j x hx => by
  obtain ⟨g, off, e, hc⟩ := h j x hx
  exact ⟨g, off, e, k.cell (fun z => z) hc⟩
theorem row_ul {w : World} {B : Nat} {a : Option Addr} {n c : Nat} {X : List Int} (h : w.ownsRow B 5 1 (.slice a n c) n (rowU X)) : UL w a X := fun j x hx => by
  obtain ⟨g, c', e, hc, -⟩ := row_cell h (i := j) (u := .int .u8 x) (by unfold rowU; rw [List.getElem?_map, hx]; rfl)
  cases e
  exact ⟨g, 0, rfl, by rw [Nat.zero_add]; exact hc⟩
set_option linter.unusedSimpArgs false in
set_option maxRecDepth 100000 in
set_option maxHeartbeats 8000000 in
/-- cnflaw.sameBytes, at two equal texts -/
theorem sameBytes_eq (w : World) (a : Option Addr) (c : Nat) (b : Option Addr) (d : Nat) (X : List Int) (hA : UL w a X) (hB : UL w b X) (hl : X.length ≤ 4000000000000000000) :
    Calls Tryz.prog 24 #[.slice a X.length c, .slice b X.length d] w (DrPost w (.bool true)) := by
  have HA := hide hA
  have HB := hide hB
  clear hA hB
  obtain ⟨n, hn⟩ : ∃ n, X.length = n := ⟨_, rfl⟩
  have HN := hide hn
  rw [hn] at hl ⊢
  clear hn
  go_enter Tryz.func24, Tryz.ntmps24
  go_wp2_with fail
  go_loopw [5, 13] (fun _ s13 wx => ∃ (i : Nat), s13 = .int .i64 i ∧ i ≤ n ∧ Hid (∃ m, wx = w.drewN m)) (fun _ s13 _ => n - (intOf s13).toNat)
  case atStart => exact ⟨0, rfl, Nat.zero_le _, ⟨0, rfl⟩⟩
  case round =>
    obtain ⟨i, rfl, hi, HW⟩ := hrel
    have hw1 : wrap64 ((i : Int) + 1) = ((i + 1 : Nat) : Int) := by unfold wrap64; omega
    by_cases hlt : i < n
    · have hib : decide ((i : Int) < (n : Int)) = true := decide_eq_true (by omega)
      have hii : (i : Int) < (n : Int) := by omega
      have HE : Hid (Ex (fun _ => False) w wr) := by obtain ⟨m, hm⟩ := HW.out; show Ex _ _ _; rw [hm]; exact (Ex.refl _ w).drewN m
      obtain ⟨x, hx⟩ : ∃ x, X[i]? = some x := ⟨_, List.getElem?_eq_getElem (by rw [HN.out]; exact hlt)⟩
      obtain ⟨g1, o1, ea1, x0⟩ := (HA.out.keep HE.out) i x hx
      obtain ⟨g2, o2, ea2, y0⟩ := (HB.out.keep HE.out) i x hx
      subst ea1 ea2
      clear hx HE
      go_upto_region 6 with fail
      go_quiet (fail)
      rename Nat => nq
      have HW2 : Hid (∃ m, wr.drewN nq = w.drewN m) := by obtain ⟨m, hm⟩ := HW.out; exact ⟨m + nq, by rw [hm, World.drewN_drewN]⟩
      generalize wr.drewN nq = w2 at *
      go_wp2
      go_roundw
      case rel => exact ⟨i + 1, by go_num, by omega, HW2⟩
      case measure => (simp [intOf]; try omega)
    · have hib : decide ((i : Int) < (n : Int)) = false := decide_eq_false (by omega)
      go_wp2
      exact bodyPost_ret (v := .bool true) (by simp [results, Tryz.results24, go_sem]) rfl ⟨rfl, HW.out⟩
def spM (x : Int) : Bool := x == 32 || x == 9 || x == 13 || x == 10
set_option linter.unusedSimpArgs false in
set_option maxRecDepth 100000 in
set_option maxHeartbeats 8000000 in
/-- cnfm.space -/
theorem spaceM_any (w : World) (x : Int) : Calls Tryz.prog 157 #[.int .u8 x] w fun e w' => e = .returned (.bool (spM x)) ∧ w' = w := by
  unfold spM
  generalize h1 : (x == 32) = b1
  generalize h2 : (x == 9) = b2
  generalize h3 : (x == 13) = b3
  generalize h4 : (x == 10) = b4
  cases b1 <;> cases b2 <;> cases b3 <;> cases b4 <;>
    (go_enter Tryz.func157, Tryz.ntmps157
     go_wp2
     go_ret
     exact ⟨rfl, rfl⟩)
end Go.Proofs.Qxb6500773aGreat
