import Derived.Test.Qxb6500773aGreatSc1
namespace Go.Proofs.Qxb6500773aGreat
open Go.RowKit

def offLeft (s n : Nat) (w : World) : Nat := n - (intOf ((w.cell? ⟨s, 1, none⟩).getD undef)).toNat
theorem offLeft_at {w : World} {s n : Nat} {off : Nat} (h : w.cell? ⟨s, 1, none⟩ = some (.int .i64 off)) : offLeft s n w = n - off := by
  unfold offLeft
  rw [h]
  simp [intOf]
theorem SC.setOffI {w : World} {s n c off bol : Nat} {a : Option Addr} {T : Nat → Int} {line : Int} (h : SC w s a n c T off line bol) (o : Nat) {u : Int} (e : u = (o : Int)) : SC (w.setCell ⟨s, 1, none⟩ (.int .i64 u)) s a n c T o line bol ∧ Ex (fun k => k = s) w (w.setCell ⟨s, 1, none⟩ (.int .i64 u)) := by
  subst e
  exact h.setOff o
/-- The end of the line at i. -/
def eolE (T : Nat → Int) (n : Nat) : Nat → Nat → Nat
  | 0, i => i
  | k + 1, i => if i < n ∧ T i ≠ 10 then eolE T n k (i + 1) else i
theorem eolE_step (T : Nat → Int) {n i : Nat} (h : i < n) : eolE T n (n - i) i = if T i ≠ 10 then eolE T n (n - (i + 1)) (i + 1) else i := by
  rw [show n - i = n - (i + 1) + 1 by omega, eolE]
  by_cases e : T i ≠ 10
  · rw [if_pos ⟨h, e⟩, if_pos e]
  · rw [if_neg (fun z => e z.2), if_neg e]
theorem eolE_rng (T : Nat → Int) (n : Nat) : ∀ k i, i ≤ n → i ≤ eolE T n k i ∧ eolE T n k i ≤ n
  | 0, i, h => ⟨Nat.le_refl _, h⟩
  | k + 1, i, h => by
    rw [eolE]
    split
    · next hc => have := eolE_rng T n k (i + 1) (by omega); omega
    · exact ⟨Nat.le_refl _, h⟩
def SkPost (w : World) (s : Nat) (a : Option Addr) (n c : Nat) (T : Nat → Int) (off : Nat) (line : Int) (bol : Nat) (e : Ending) (w' : World) : Prop := e = .returned (.tuple #[]) ∧ SC w' s a n c T off line bol ∧ Ex (fun k => k = s) w w'
set_option linter.unusedSimpArgs false in
set_option maxRecDepth 100000 in
set_option maxHeartbeats 4000000 in
/-- cnf.scanner.skipLine -/
theorem skipLine_any (w : World) (s n c off bol : Nat) (a : Option Addr) (T : Nat → Int) (line : Int) (h : SC w s a n c T off line bol) (hn : n ≤ 4611686018427387904) (ho : off ≤ n) :
    Calls Tryz.prog 153 #[.pointer (some ⟨s, 0, none⟩)] w (SkPost w s a n c T (eolE T n (n - off) off) line bol) := by
  have HS := hide h
  clear h
  go_enter Tryz.func153, Tryz.ntmps153
  go_wp2
  go_loopw [2] (fun _ wr => ∃ i : Nat, off ≤ i ∧ i ≤ n ∧ SC wr s a n c T i line bol ∧ Hid (eolE T n (n - off) off = eolE T n (n - i) i) ∧ Ex (fun k => k = s) w wr) (fun _ wr => offLeft s n wr)
  case atStart => exact ⟨off, Nat.le_refl _, ho, HS.out, hide rfl, Ex.refl _ _⟩
  case round =>
    clear HS
    obtain ⟨i, hi, hin, hs, HE, hex⟩ := hrel
    have HS := hide hs
    have HX := hide hex
    have HOL := hide (offLeft_at (n := n) hs.c1)
    have c0 := hs.c0
    have c1 := hs.c1
    clear hs hex
    by_cases hlt : i < n
    · have hlti : (i : Int) < (n : Int) := by omega
      have hltb : decide ((i : Int) < (n : Int)) = true := by simpa using hlt
      have hi0 : decide ((i : Int) < 0) = false := by simp
      obtain ⟨g, o, ea, cb, hb⟩ := HS.out.bt i hlt
      subst ea
      have HST := hide (eolE_step T hlt)
      by_cases h10 : T i = 10
      · have h10b : (T i != 10) = false := by simpa using h10
        have HP := hide (show eolE T n (n - off) off = i by rw [HE.out, HST.out, if_neg (fun z => z h10)])
        clear h10 HST HE
        go_upto_region 0 with fail
        go_quiet (fail)
        rename_i nq
        have HPO := hide (show SkPost w s (some ⟨g, o, none⟩) n c T (eolE T n (n - off) off) line bol (.returned (.tuple #[])) (wr.drewN nq) from ⟨rfl, by rw [HP.out]; exact HS.out.below (belN _ _), HX.out.drewN _⟩)
        go_wp2
        exact bodyPost_ret (v := .tuple #[]) (by simp [results, Tryz.results153, go_sem]) rfl HPO.out
      · have h10b : (T i != 10) = true := by simpa using h10
        have HP := hide (show eolE T n (n - off) off = eolE T n (n - (i + 1)) (i + 1) by rw [HE.out, HST.out, if_pos h10])
        clear h10 HST HE
        go_upto_region 0 with fail
        go_quiet (fail)
        rename_i nq
        replace HS := hide (HS.out.below (belN _ nq))
        replace HX := hide (HX.out.drewN nq)
        clear c0 c1 cb
        generalize World.drewN _ nq = w2 at *
        have c1 := HS.out.c1
        have f1 := HS.out.f
        have hwi : IntKind.i64.wrap ((i : Int) + 1) = (i : Int) + 1 := by rw [IntKind.wrap_i64]; omega
        have HS2 := hide (HS.out.setOffI (i + 1) (u := (i : Int) + 1) (by omega))
        have HX2 := hide (HX.out.trans HS2.out.2)
        have HO2 := hide (offLeft_at (n := n) HS2.out.1.c1)
        clear HS HX
        go_wp2
        go_roundw
        case rel => exact ⟨i + 1, by omega, by omega, HS2.out.1, HP, HX2.out⟩
        case measure => rw [HOL.out, HO2.out]; omega
    · obtain rfl : i = n := by omega
      have hltb : decide ((i : Int) < (i : Int)) = false := by simp
      have HP := hide (show eolE T i (i - off) off = i by rw [HE.out, Nat.sub_self]; rfl)
      clear HE
      go_upto_region 0 with fail
      go_quiet (fail)
      rename_i nq
      have HPO := hide (show SkPost w s a i c T (eolE T i (i - off) off) line bol (.returned (.tuple #[])) (wr.drewN nq) from ⟨rfl, by rw [HP.out]; exact HS.out.below (belN _ _), HX.out.drewN _⟩)
      go_wp2
      exact bodyPost_ret (v := .tuple #[]) (by simp [results, Tryz.results153, go_sem]) rfl HPO.out
end Go.Proofs.Qxb6500773aGreat
