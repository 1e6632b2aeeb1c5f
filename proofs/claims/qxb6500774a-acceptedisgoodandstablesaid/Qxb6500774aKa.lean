import Derived.Test.Qxb6500774aKa1
import Derived.Test.Qxb6500774aKa2
import Derived.Test.Qxb6500774aKa3
import Derived.Test.Qxb6500774aKa4
namespace Go.Proofs.Qxb6500774a
open Go.RowKit
set_option linter.unusedVariables false
set_option linter.unusedSimpArgs false
variable {R : Nat → Option Value}
set_option linter.unusedSimpArgs false in
set_option maxRecDepth 100000 in
set_option maxHeartbeats 100000000 in
/-- lexer.skip -/
theorem skipK_any (w : World) (p : Nat) (a : Option Addr) (cp : Nat) (s : List Int) (q : Pl) (h : LX R w p a cp s q) (hq : PlOk s q) (hl : s.length ≤ 1048576) :
    Calls Try.prog 85 #[.pointer (some ⟨p, 0, none⟩)] w (SkPost R w p a cp s (skP s q)) := by
  have HX := hide h
  have HQ := hide hq
  obtain ⟨RR, hRR⟩ : ∃ r, skP s q = r := ⟨_, rfl⟩
  have HRR := hide hRR
  rw [hRR]
  clear hRR h hq
  go_enter Try.func85, Try.ntmps85
  go_wp2
  go_loopw [3, 4, 5] (fun _ _ _ wr => ∃ (k : Pl), Hid (skP s k = RR) ∧ Hid (PlOk s k) ∧ Hid (Ex (fun k => k = p) w wr) ∧ Hid (LX R wr p a cp s k)) (fun _ _ _ wr => s.length - offOf wr p)
  case atStart => exact ⟨q, HRR, HQ, Ex.refl _ _, HX⟩
  case round =>
    clear HX HQ HRR
    obtain ⟨k, HR, HQ, HE, HX⟩ := hrel
    have HOF := hide HX.out.offOf
    have hko := HQ.out.o
    have c0 := HX.out.c0
    have c1 := HX.out.c1
    obtain ⟨ko, hkoe⟩ : ∃ x, k.o = x := ⟨_, rfl⟩
    have HKO := hide hkoe
    rw [hkoe] at hko c1 HOF
    by_cases hlt : ko < s.length
    · clear c0 c1
      have hlt0 : k.o < s.length := by rw [HKO.out]; exact hlt
      by_cases hb : (byP s k.o = 32 ∨ byP s k.o = 9 ∨ byP s k.o = 13 ∨ byP s k.o = 10)
      · exact sk_blank w wr p a cp s k RR hl HR HQ HE HX hlt0 hb _ _ _ _ _ _ _ _ _ _ _ _ _ _ _ _ _ _ _ _ _ _ _ _ _ _ _ _ _ _ _ _ _ _ _ _ _ _ _ _ _ _ _ _ _ _ _ _ _ _ _ _ _ _ _ _ _ _ _ _ _ _ _ _ _ _ _ _ _ _ _ _ _ _ _ _ _ _ _ _ _ _ _ _ _ _ _ _ _ _ _ _ _ _ _ _ _ _ _ _ _ _ _ _ _ _ _ _ _ _ _ _ _ _ _ _ _ _ _ _ _ _ _ _ _ _ _ _ _ _ _ _ _ _ _ _ _ _ _ _ _ _ _
      by_cases hs : (byP s k.o = 47 ∧ byP s ((k.o + 1 : Nat) : Int) = 47)
      · exact sk_line w wr p a cp s k RR hl HR HQ HE HX hlt0 hb hs _ _ _ _ _ _ _ _ _ _ _ _ _ _ _ _ _ _ _ _ _ _ _ _ _ _ _ _ _ _ _ _ _ _ _ _ _ _ _ _ _ _ _ _ _ _ _ _ _ _ _ _ _ _ _ _ _ _ _ _ _ _ _ _ _ _ _ _ _ _ _ _ _ _ _ _ _ _ _ _ _ _ _ _ _ _ _ _ _ _ _ _ _ _ _ _ _ _ _ _ _ _ _ _ _ _ _ _ _ _ _ _ _ _ _ _ _ _ _ _ _ _ _ _ _ _ _ _ _ _ _ _ _ _ _ _ _ _ _ _ _ _ _
      by_cases hp : (byP s k.o = 40 ∧ byP s ((k.o + 1 : Nat) : Int) = 42)
      · exact sk_cmt w wr p a cp s k RR hl HR HQ HE HX hlt0 hb hs hp _ _ _ _ _ _ _ _ _ _ _ _ _ _ _ _ _ _ _ _ _ _ _ _ _ _ _ _ _ _ _ _ _ _ _ _ _ _ _ _ _ _ _ _ _ _ _ _ _ _ _ _ _ _ _ _ _ _ _ _ _ _ _ _ _ _ _ _ _ _ _ _ _ _ _ _ _ _ _ _ _ _ _ _ _ _ _ _ _ _ _ _ _ _ _ _ _ _ _ _ _ _ _ _ _ _ _ _ _ _ _ _ _ _ _ _ _ _ _ _ _ _ _ _ _ _ _ _ _ _ _ _ _ _ _ _ _ _ _ _ _ _ _
      exact sk_here w wr p a cp s k RR hl HR HQ HE HX hlt0 hb hs hp _ _ _ _ _ _ _ _ _ _ _ _ _ _ _ _ _ _ _ _ _ _ _ _ _ _ _ _ _ _ _ _ _ _ _ _ _ _ _ _ _ _ _ _ _ _ _ _ _ _ _ _ _ _ _ _ _ _ _ _ _ _ _ _ _ _ _ _ _ _ _ _ _ _ _ _ _ _ _ _ _ _ _ _ _ _ _ _ _ _ _ _ _ _ _ _ _ _ _ _ _ _ _ _ _ _ _ _ _ _ _ _ _ _ _ _ _ _ _ _ _ _ _ _ _ _ _ _ _ _ _ _ _ _ _ _ _ _ _ _ _ _ _
    · have d1 : decide ((ko : Int) < (s.length : Int)) = false := by simp; omega
      have hki : ¬ (ko : Int) < (s.length : Int) := by omega
      have HR1 : Hid ((true, k) = RR) := by
        show _ = _
        rw [← HR.out]
        exact (skP_end (by rw [HKO.out]; exact hlt)).symm
      go_wp2_with fail
      go_quiet (fail)
      have HX2 := hide (HX.out.below (below_dn wr nq wr.heap.size))
      have HE2 : Hid (Ex (fun k => k = p) w (wr.drewN nq)) := HE.out.drewN nq
      generalize wr.drewN nq = w2 at *
      clear HX HE c0 c1
      go_wp2_with (with_reducible refine bodyPost_ret (v := .bool true) ?hr ?hd ?hp)
      case hr => simp [results, Try.results85, go_sem]
      case hd => rfl
      case hp => rw [← HR1.out]; exact ⟨rfl, HE2.out, HX2.out, HQ.out⟩
end Go.Proofs.Qxb6500774a
