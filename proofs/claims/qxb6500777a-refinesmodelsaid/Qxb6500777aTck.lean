import Derived.Test.Qxb6500777aTk
import Derived.Test.Qxb6500777aBrn
import Derived.Test.Qxb6500777aLst
namespace Go.Proofs.Qxb6500777a
open Go.RowKit

/-- All teams between the ticks. -/
structure TsI (TT : Nat → Tbl) (n : Int) : Prop where
  tk : ∀ k, k < 4 → TkI (TT k)
  nx : ∀ k, k < 4 → (TT k).next ≤ n
/-- A tick of all teams. -/
def TicksR (D : List Det) (W : Nat → Tgt) (X Y : Nat → Int) (TT TT' : Nat → Tbl) : Prop := ∀ k : Nat, k < 4 → TickR (fuseP D (k : Int)) W X Y (TT k) (TT' k)
def TcPost (w : World) (b m : Nat) (D : List Det) (W : Nat → Tgt) (X Y : Nat → Int) (TT : Nat → Tbl) (n : Int) (e : Ending) (w' : World) : Prop :=
  ∃ TT', e = .returned (.tuple #[]) ∧ BD w' b m TT' ∧ TsI TT' (n + 112) ∧ TicksR D W X Y TT TT' ∧ Fr b 0 3017 w w'
set_option maxRecDepth 100000 in
set_option maxHeartbeats 2000000 in
/-- tracks.Board.Tick -/
theorem tick_any (w : World) (b m p : Nat) (X Y : Nat → Int) (W : Nat → Tgt) (a : Option Addr) (n c : Nat) (D : List Det) (TT : Nat → Tbl) (N : Int)
    (h : BD w b m TT) (hk : TsI TT N) (hN : N + 112 ≤ 1000000000) (hmt : MT w m X Y) (hmb : m ≠ b) (hD : DA w a D) (hn : n = D.length) (hl : n ≤ 1000000)
    (hal : ∀ g off, a = some ⟨g, off, none⟩ → g < w.heap.size ∧ g ≠ b) (hW : WA w p W) (hpb : p ≠ b) (hWo : ∀ t, t < 112 → TgtOk (W t)) :
    Calls Try.prog 19 #[.pointer (some ⟨b, 0, none⟩), .slice a n c, .pointer (some ⟨p, 0, none⟩)] w (TcPost w b m D W X Y TT N) := by
  have HB := hide h
  have HK := hide hk
  have HMT := hide hmt
  have HD := hide hD
  have HAL := hide hal
  have HW := hide hW
  have HWO := hide hWo
  have HNL := hide hn
  clear h hk hmt hD hal hW hWo hn
  go_enter Try.func19, Try.ntmps19
  go_wp2
  go_loopw [6] (fun s6 wr => ∃ (i : Nat) (T1 : Nat → Tbl), i ≤ 4 ∧ s6 = .int .i64 i ∧ BD wr b m T1 ∧ Hid (∀ k : Nat, k < i → TickR (fuseP D (k : Int)) W X Y (TT k) (T1 k) ∧ TkI (T1 k) ∧ (T1 k).next ≤ N + 112) ∧ Hid (∀ k, i ≤ k → T1 k = TT k) ∧ Fr b 0 3017 w wr) (fun s6 _ => 4 - (intOf s6).toNat)
  case atStart => exact ⟨0, TT, by omega, rfl, HB.out, hide fun k hk => by omega, hide fun _ _ => rfl, Fr.refl _ _ _ _⟩
  case round =>
    clear HB
    obtain ⟨i, T1, hi, rfl, hbd, HT1, HT2, hfr⟩ := hrel
    have HB := hide hbd
    have HF := hide hfr
    clear hbd hfr
    by_cases hi4 : i < 4
    · have hi4i : (i : Int) < 4 := by omega
      go_wp2_with fail
      refine (tickTeam_any wr b m p i hi4 X Y W a n c D (T1 i) (HB.out.ta i hi4) (by rw [HT2.out i (Nat.le_refl _)]; exact HK.out.tk i hi4) (by rw [HT2.out i (Nat.le_refl _)]; have := HK.out.nx i hi4; omega) HB.out.c0 (HMT.out.keep HF.out.ex hmb) hmb (HD.out.keep HF.out.ex (fun g off e => (HAL.out g off e).2)) HNL.out hl (fun g off e => Nat.lt_of_lt_of_le (HAL.out g off e).1 HF.out.ex.size) (HW.out.keep HF.out.ex hpb) hpb HWO.out).mono ?_
      rintro e w2 ⟨T', rfl, ta, tk, tr, nx, fr⟩
      rw [HT2.out i (Nat.le_refl _)] at tr nx
      have HB2 := hide (HB.out.team fr ta)
      have HF2 := hide (HF.out.trans (fr.mono (by omega) (by omega)))
      have HTR := hide (show TickR (fuseP D (i : Int)) W X Y (TT i) T' ∧ TkI T' ∧ T'.next ≤ N + 112 from ⟨tr, tk, by have := HK.out.nx i hi4; omega⟩)
      clear ta tk tr nx fr
      go_wp2
      go_roundw
      case rel => exact ⟨i + 1, upd T1 i T', by omega, by simp, HB2.out, hide fun k hk => by rcases (by omega : k = i ∨ k < i) with rfl | z; rw [upd_same]; exact HTR.out; rw [upd_ne _ _ (by omega)]; exact HT1.out k z, hide fun k hk => by rw [upd_ne _ _ (by omega)]; exact HT2.out k (by omega), HF2.out⟩
      case measure => simp [intOf]; omega
    · obtain rfl : i = 4 := by omega
      rw [show ((4 : Nat) : Int) = 4 from rfl]
      have HPO := hide (show TcPost w b m D W X Y TT N (.returned (.tuple #[])) wr from ⟨T1, rfl, HB.out, ⟨fun k hk => (HT1.out k hk).2.1, fun k hk => (HT1.out k hk).2.2⟩, fun k hk => (HT1.out k hk).1, HF.out⟩)
      go_wp2
      exact bodyPost_ret (v := .tuple #[]) (by simp [results, Try.results19, go_sem]) rfl HPO.out
end Go.Proofs.Qxb6500777a
