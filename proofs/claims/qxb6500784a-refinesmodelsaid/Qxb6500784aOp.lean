import Derived.Test.Qxb6500784aPr
namespace Go.Proofs.Qxb6500784a
open Go.RowKit

def opened (P : Pr) : Pr := { P with sa := P.sa ++ [P.la], sb := P.sb ++ [P.lb], ta := P.ta ++ [P.ba], tb := P.tb ++ [P.bb] }
/-- The four parts can be opened once more. -/
def shallow (P : Pr) : Prop := P.sa.length < 8 ∧ P.sb.length < 8 ∧ P.ta.length < 8 ∧ P.tb.length < 8

/-- The state Q over the checkpoints of the opened P. -/
def onto (Q P : Pr) : Pr := { la := Q.la, sa := P.sa ++ [P.la], lb := Q.lb, sb := P.sb ++ [P.lb], ba := Q.ba, ta := P.ta ++ [P.ba], bb := Q.bb, tb := P.tb ++ [P.bb], b1 := Q.b1, t1 := Q.t1 }
def kept (Q P : Pr) : Pr := { la := Q.la, sa := P.sa, lb := Q.lb, sb := P.sb, ba := Q.ba, ta := P.ta, bb := Q.bb, tb := P.tb, b1 := Q.b1, t1 := Q.t1 }
def undone (Q P : Pr) : Pr := { la := P.la, sa := P.sa, lb := P.lb, sb := P.sb, ba := P.ba, ta := P.ta, bb := P.bb, tb := P.tb, b1 := Q.b1, t1 := Q.t1 }

set_option linter.unusedSimpArgs false in
set_option maxRecDepth 100000 in
set_option maxHeartbeats 4000000 in
theorem open_ok (w : World) (b : Nat) (P : Pr) (S : List Nat) (h : PP w b P S) (hsm : PSm P) (hA : P.sa.length < 8) (hB : P.sb.length < 8) (hC : P.ta.length < 8) (hD : P.tb.length < 8) :
    Calls Try.prog 85 #[.pointer (some ⟨b, 0, none⟩)] w fun e w' => e = .returned (.int .i64 0) ∧ PStep w b S (opened P) w' := by
  have HP0 := hide h
  have HK0 := hide (Link.refl w b S)
  have HSM := hide hsm
  clear h hsm
  go_enter Try.func85, Try.ntmps85
  go_wp2_with fail
  obtain ⟨Bq, hBq, upq⟩ := HP0.out.onA
  refine (checkL_any w b 0 P.la P.sa Bq hBq hA HSM.out.1).mono ?_
  rintro e w1 hst
  obtain ⟨rfl, hps⟩ := upq _ _ _ _ _ hst
  obtain ⟨S1, lkq, hpq⟩ := hps.out
  have HK1 := hide (HK0.out.trans lkq)
  have HP1 := hide hpq
  clear hBq upq hst hps lkq hpq Bq
  go_wp2_with fail
  obtain ⟨Bq, hBq, upq⟩ := HP1.out.onB
  refine (checkL_any w1 b 326 P.lb P.sb Bq hBq hB HSM.out.2.1).mono ?_
  rintro e w2 hst
  obtain ⟨rfl, hps⟩ := upq _ _ _ _ _ hst
  obtain ⟨S2, lkq, hpq⟩ := hps.out
  have HK2 := hide (HK1.out.trans lkq)
  have HP2 := hide hpq
  clear hBq upq hst hps lkq hpq Bq
  go_wp2_with fail
  obtain ⟨Bq, hBq, upq⟩ := HP2.out.onC
  refine (checkB_any w2 b 652 P.ba P.ta Bq hBq hC HSM.out.2.2.1).mono ?_
  rintro e w3 hst
  obtain ⟨rfl, hps⟩ := upq _ _ _ _ _ hst
  obtain ⟨S3, lkq, hpq⟩ := hps.out
  have HK3 := hide (HK2.out.trans lkq)
  have HP3 := hide hpq
  clear hBq upq hst hps lkq hpq Bq
  go_wp2_with fail
  obtain ⟨Bq, hBq, upq⟩ := HP3.out.onD
  refine (checkB_any w3 b 657 P.bb P.tb Bq hBq hD HSM.out.2.2.2.1).mono ?_
  rintro e w4 hst
  obtain ⟨rfl, hps⟩ := upq _ _ _ _ _ hst
  obtain ⟨S4, lkq, hpq⟩ := hps.out
  have HK4 := hide (HK3.out.trans lkq)
  have HP4 := hide hpq
  clear hBq upq hst hps lkq hpq Bq
  go_wp2
  go_ret
  exact ⟨rfl, HK4.out.step HP4.out⟩

set_option linter.unusedSimpArgs false in
set_option maxRecDepth 100000 in
set_option maxHeartbeats 4000000 in
theorem open_a (w : World) (b : Nat) (P : Pr) (S : List Nat) (h : PP w b P S) (hsm : PSm P) (hA : 8 ≤ P.sa.length) :
    Calls Try.prog 85 #[.pointer (some ⟨b, 0, none⟩)] w fun e w' => e = .returned (.int .i64 34) ∧ PStep w b S P w' := by
  have HP0 := hide h
  have HK0 := hide (Link.refl w b S)
  have HSM := hide hsm
  clear h hsm
  go_enter Try.func85, Try.ntmps85
  go_wp2_with fail
  obtain ⟨Bq, hBq, upq⟩ := HP0.out.onA
  refine (checkL_deep w b 0 P.la P.sa Bq hBq hA HSM.out.1.2.2).mono ?_
  rintro e w1 hst
  obtain ⟨rfl, hps⟩ := upq _ _ _ _ _ hst
  obtain ⟨S1, lkq, hpq⟩ := hps.out
  have HK1 := hide (HK0.out.trans lkq)
  have HP1 := hide hpq
  clear hBq upq hst hps lkq hpq Bq
  go_wp2
  go_ret
  exact ⟨rfl, HK1.out.step HP1.out⟩

set_option linter.unusedSimpArgs false in
set_option maxRecDepth 100000 in
set_option maxHeartbeats 4000000 in
theorem open_b (w : World) (b : Nat) (P : Pr) (S : List Nat) (h : PP w b P S) (hsm : PSm P) (hA : P.sa.length < 8) (hB : 8 ≤ P.sb.length) :
    Calls Try.prog 85 #[.pointer (some ⟨b, 0, none⟩)] w fun e w' => e = .returned (.int .i64 34) ∧ PStep w b S P w' := by
  have HP0 := hide h
  have HK0 := hide (Link.refl w b S)
  have HSM := hide hsm
  clear h hsm
  go_enter Try.func85, Try.ntmps85
  go_wp2_with fail
  obtain ⟨Bq, hBq, upq⟩ := HP0.out.onA
  refine (checkL_any w b 0 P.la P.sa Bq hBq hA HSM.out.1).mono ?_
  rintro e w1 hst
  obtain ⟨rfl, hps⟩ := upq _ _ _ _ _ hst
  obtain ⟨S1, lkq, hpq⟩ := hps.out
  have HK1 := hide (HK0.out.trans lkq)
  have HP1 := hide hpq
  clear hBq upq hst hps lkq hpq Bq
  go_wp2_with fail
  obtain ⟨Bq, hBq, upq⟩ := HP1.out.onB
  refine (checkL_deep w1 b 326 P.lb P.sb Bq hBq hB HSM.out.2.1.2.2).mono ?_
  rintro e w2 hst
  obtain ⟨rfl, hps⟩ := upq _ _ _ _ _ hst
  obtain ⟨S2, lkq, hpq⟩ := hps.out
  have HK2 := hide (HK1.out.trans lkq)
  have HP2 := hide hpq
  clear hBq upq hst hps lkq hpq Bq
  go_wp2_with fail
  obtain ⟨Bq, hBq, upq⟩ := HP2.out.onA
  refine (commitL_any w2 b 0 P.la P.sa P.la Bq hBq HSM.out.1.2.2).mono ?_
  rintro e w3 hst
  obtain ⟨rfl, hps⟩ := upq _ _ _ _ _ hst
  obtain ⟨S3, lkq, hpq⟩ := hps.out
  have HK3 := hide (HK2.out.trans lkq)
  have HP3 := hide hpq
  clear hBq upq hst hps lkq hpq Bq
  go_wp2
  go_ret
  exact ⟨rfl, HK3.out.step HP3.out⟩

set_option linter.unusedSimpArgs false in
set_option maxRecDepth 100000 in
set_option maxHeartbeats 4000000 in
theorem open_c (w : World) (b : Nat) (P : Pr) (S : List Nat) (h : PP w b P S) (hsm : PSm P) (hA : P.sa.length < 8) (hB : P.sb.length < 8) (hC : 8 ≤ P.ta.length) :
    Calls Try.prog 85 #[.pointer (some ⟨b, 0, none⟩)] w fun e w' => e = .returned (.int .i64 34) ∧ PStep w b S P w' := by
  have HP0 := hide h
  have HK0 := hide (Link.refl w b S)
  have HSM := hide hsm
  clear h hsm
  go_enter Try.func85, Try.ntmps85
  go_wp2_with fail
  obtain ⟨Bq, hBq, upq⟩ := HP0.out.onA
  refine (checkL_any w b 0 P.la P.sa Bq hBq hA HSM.out.1).mono ?_
  rintro e w1 hst
  obtain ⟨rfl, hps⟩ := upq _ _ _ _ _ hst
  obtain ⟨S1, lkq, hpq⟩ := hps.out
  have HK1 := hide (HK0.out.trans lkq)
  have HP1 := hide hpq
  clear hBq upq hst hps lkq hpq Bq
  go_wp2_with fail
  obtain ⟨Bq, hBq, upq⟩ := HP1.out.onB
  refine (checkL_any w1 b 326 P.lb P.sb Bq hBq hB HSM.out.2.1).mono ?_
  rintro e w2 hst
  obtain ⟨rfl, hps⟩ := upq _ _ _ _ _ hst
  obtain ⟨S2, lkq, hpq⟩ := hps.out
  have HK2 := hide (HK1.out.trans lkq)
  have HP2 := hide hpq
  clear hBq upq hst hps lkq hpq Bq
  go_wp2_with fail
  obtain ⟨Bq, hBq, upq⟩ := HP2.out.onC
  refine (checkB_deep w2 b 652 P.ba P.ta Bq hBq hC HSM.out.2.2.1.2.2).mono ?_
  rintro e w3 hst
  obtain ⟨rfl, hps⟩ := upq _ _ _ _ _ hst
  obtain ⟨S3, lkq, hpq⟩ := hps.out
  have HK3 := hide (HK2.out.trans lkq)
  have HP3 := hide hpq
  clear hBq upq hst hps lkq hpq Bq
  go_wp2_with fail
  obtain ⟨Bq, hBq, upq⟩ := HP3.out.onB
  refine (commitL_any w3 b 326 P.lb P.sb P.lb Bq hBq HSM.out.2.1.2.2).mono ?_
  rintro e w4 hst
  obtain ⟨rfl, hps⟩ := upq _ _ _ _ _ hst
  obtain ⟨S4, lkq, hpq⟩ := hps.out
  have HK4 := hide (HK3.out.trans lkq)
  have HP4 := hide hpq
  clear hBq upq hst hps lkq hpq Bq
  go_wp2_with fail
  obtain ⟨Bq, hBq, upq⟩ := HP4.out.onA
  refine (commitL_any w4 b 0 P.la P.sa P.la Bq hBq HSM.out.1.2.2).mono ?_
  rintro e w5 hst
  obtain ⟨rfl, hps⟩ := upq _ _ _ _ _ hst
  obtain ⟨S5, lkq, hpq⟩ := hps.out
  have HK5 := hide (HK4.out.trans lkq)
  have HP5 := hide hpq
  clear hBq upq hst hps lkq hpq Bq
  go_wp2
  go_ret
  exact ⟨rfl, HK5.out.step HP5.out⟩

set_option linter.unusedSimpArgs false in
set_option maxRecDepth 100000 in
set_option maxHeartbeats 4000000 in
theorem open_d (w : World) (b : Nat) (P : Pr) (S : List Nat) (h : PP w b P S) (hsm : PSm P) (hA : P.sa.length < 8) (hB : P.sb.length < 8) (hC : P.ta.length < 8) (hD : 8 ≤ P.tb.length) :
    Calls Try.prog 85 #[.pointer (some ⟨b, 0, none⟩)] w fun e w' => e = .returned (.int .i64 34) ∧ PStep w b S P w' := by
  have HP0 := hide h
  have HK0 := hide (Link.refl w b S)
  have HSM := hide hsm
  clear h hsm
  go_enter Try.func85, Try.ntmps85
  go_wp2_with fail
  obtain ⟨Bq, hBq, upq⟩ := HP0.out.onA
  refine (checkL_any w b 0 P.la P.sa Bq hBq hA HSM.out.1).mono ?_
  rintro e w1 hst
  obtain ⟨rfl, hps⟩ := upq _ _ _ _ _ hst
  obtain ⟨S1, lkq, hpq⟩ := hps.out
  have HK1 := hide (HK0.out.trans lkq)
  have HP1 := hide hpq
  clear hBq upq hst hps lkq hpq Bq
  go_wp2_with fail
  obtain ⟨Bq, hBq, upq⟩ := HP1.out.onB
  refine (checkL_any w1 b 326 P.lb P.sb Bq hBq hB HSM.out.2.1).mono ?_
  rintro e w2 hst
  obtain ⟨rfl, hps⟩ := upq _ _ _ _ _ hst
  obtain ⟨S2, lkq, hpq⟩ := hps.out
  have HK2 := hide (HK1.out.trans lkq)
  have HP2 := hide hpq
  clear hBq upq hst hps lkq hpq Bq
  go_wp2_with fail
  obtain ⟨Bq, hBq, upq⟩ := HP2.out.onC
  refine (checkB_any w2 b 652 P.ba P.ta Bq hBq hC HSM.out.2.2.1).mono ?_
  rintro e w3 hst
  obtain ⟨rfl, hps⟩ := upq _ _ _ _ _ hst
  obtain ⟨S3, lkq, hpq⟩ := hps.out
  have HK3 := hide (HK2.out.trans lkq)
  have HP3 := hide hpq
  clear hBq upq hst hps lkq hpq Bq
  go_wp2_with fail
  obtain ⟨Bq, hBq, upq⟩ := HP3.out.onD
  refine (checkB_deep w3 b 657 P.bb P.tb Bq hBq hD HSM.out.2.2.2.1.2.2).mono ?_
  rintro e w4 hst
  obtain ⟨rfl, hps⟩ := upq _ _ _ _ _ hst
  obtain ⟨S4, lkq, hpq⟩ := hps.out
  have HK4 := hide (HK3.out.trans lkq)
  have HP4 := hide hpq
  clear hBq upq hst hps lkq hpq Bq
  go_wp2_with fail
  obtain ⟨Bq, hBq, upq⟩ := HP4.out.onC
  refine (commitB_any w4 b 652 P.ba P.ta P.ba Bq hBq HSM.out.2.2.1.2.2).mono ?_
  rintro e w5 hst
  obtain ⟨rfl, hps⟩ := upq _ _ _ _ _ hst
  obtain ⟨S5, lkq, hpq⟩ := hps.out
  have HK5 := hide (HK4.out.trans lkq)
  have HP5 := hide hpq
  clear hBq upq hst hps lkq hpq Bq
  go_wp2_with fail
  obtain ⟨Bq, hBq, upq⟩ := HP5.out.onB
  refine (commitL_any w5 b 326 P.lb P.sb P.lb Bq hBq HSM.out.2.1.2.2).mono ?_
  rintro e w6 hst
  obtain ⟨rfl, hps⟩ := upq _ _ _ _ _ hst
  obtain ⟨S6, lkq, hpq⟩ := hps.out
  have HK6 := hide (HK5.out.trans lkq)
  have HP6 := hide hpq
  clear hBq upq hst hps lkq hpq Bq
  go_wp2_with fail
  obtain ⟨Bq, hBq, upq⟩ := HP6.out.onA
  refine (commitL_any w6 b 0 P.la P.sa P.la Bq hBq HSM.out.1.2.2).mono ?_
  rintro e w7 hst
  obtain ⟨rfl, hps⟩ := upq _ _ _ _ _ hst
  obtain ⟨S7, lkq, hpq⟩ := hps.out
  have HK7 := hide (HK6.out.trans lkq)
  have HP7 := hide hpq
  clear hBq upq hst hps lkq hpq Bq
  go_wp2
  go_ret
  exact ⟨rfl, HK7.out.step HP7.out⟩

open Classical in
/-- Pair.open -/
theorem open_any (w : World) (b : Nat) (P : Pr) (S : List Nat) (h : PP w b P S) (hsm : PSm P) :
    Calls Try.prog 85 #[.pointer (some ⟨b, 0, none⟩)] w fun e w' => e = .returned (.int .i64 (if shallow P then 0 else 34)) ∧ PStep w b S (if shallow P then opened P else P) w' := by
  by_cases hs : shallow P
  · rw [if_pos hs, if_pos hs]
    exact open_ok w b P S h hsm hs.1 hs.2.1 hs.2.2.1 hs.2.2.2
  · rw [if_neg hs, if_neg hs]
    by_cases hA : P.sa.length < 8
    · by_cases hB : P.sb.length < 8
      · by_cases hC : P.ta.length < 8
        · exact open_d w b P S h hsm hA hB hC (Nat.le_of_not_lt fun hD => hs ⟨hA, hB, hC, hD⟩)
        · exact open_c w b P S h hsm hA hB (Nat.le_of_not_lt hC)
      · exact open_b w b P S h hsm hA (Nat.le_of_not_lt hB)
    · exact open_a w b P S h hsm (Nat.le_of_not_lt hA)

set_option linter.unusedSimpArgs false in
set_option maxRecDepth 100000 in
set_option maxHeartbeats 4000000 in
theorem keepP_any (w : World) (b : Nat) (Q P : Pr) (S : List Nat) (h : PP w b (onto Q P) S) (hsm : PSm P) :
    Calls Try.prog 88 #[.pointer (some ⟨b, 0, none⟩)] w fun e w' => e = .returned (.tuple #[]) ∧ PStep w b S (kept Q P) w' := by
  have HP0 := hide h
  have HK0 := hide (Link.refl w b S)
  have HSM := hide hsm
  clear h hsm
  go_enter Try.func88, Try.ntmps88
  go_wp2_with fail
  obtain ⟨Bq, hBq, upq⟩ := HP0.out.onD
  refine (commitB_any w b 657 Q.bb P.tb P.bb Bq hBq HSM.out.2.2.2.1.2.2).mono ?_
  rintro e w1 hst
  obtain ⟨rfl, hps⟩ := upq _ _ _ _ _ hst
  obtain ⟨S1, lkq, hpq⟩ := hps.out
  have HK1 := hide (HK0.out.trans lkq)
  have HP1 := hide hpq
  clear hBq upq hst hps lkq hpq Bq
  go_wp2_with fail
  obtain ⟨Bq, hBq, upq⟩ := HP1.out.onC
  refine (commitB_any w1 b 652 Q.ba P.ta P.ba Bq hBq HSM.out.2.2.1.2.2).mono ?_
  rintro e w2 hst
  obtain ⟨rfl, hps⟩ := upq _ _ _ _ _ hst
  obtain ⟨S2, lkq, hpq⟩ := hps.out
  have HK2 := hide (HK1.out.trans lkq)
  have HP2 := hide hpq
  clear hBq upq hst hps lkq hpq Bq
  go_wp2_with fail
  obtain ⟨Bq, hBq, upq⟩ := HP2.out.onB
  refine (commitL_any w2 b 326 Q.lb P.sb P.lb Bq hBq HSM.out.2.1.2.2).mono ?_
  rintro e w3 hst
  obtain ⟨rfl, hps⟩ := upq _ _ _ _ _ hst
  obtain ⟨S3, lkq, hpq⟩ := hps.out
  have HK3 := hide (HK2.out.trans lkq)
  have HP3 := hide hpq
  clear hBq upq hst hps lkq hpq Bq
  go_wp2_with fail
  obtain ⟨Bq, hBq, upq⟩ := HP3.out.onA
  refine (commitL_any w3 b 0 Q.la P.sa P.la Bq hBq HSM.out.1.2.2).mono ?_
  rintro e w4 hst
  obtain ⟨rfl, hps⟩ := upq _ _ _ _ _ hst
  obtain ⟨S4, lkq, hpq⟩ := hps.out
  have HK4 := hide (HK3.out.trans lkq)
  have HP4 := hide hpq
  clear hBq upq hst hps lkq hpq Bq
  go_wp2
  exact ⟨rfl, .tuple #[], by simp [results, Try.results88], rfl, HK4.out.step HP4.out⟩

set_option linter.unusedSimpArgs false in
set_option maxRecDepth 100000 in
set_option maxHeartbeats 4000000 in
theorem rollP_any (w : World) (b : Nat) (Q P : Pr) (S : List Nat) (h : PP w b (onto Q P) S) (hsm : PSm P) :
    Calls Try.prog 87 #[.pointer (some ⟨b, 0, none⟩)] w fun e w' => e = .returned (.tuple #[]) ∧ PStep w b S (undone Q P) w' := by
  have HP0 := hide h
  have HK0 := hide (Link.refl w b S)
  have HSM := hide hsm
  clear h hsm
  go_enter Try.func87, Try.ntmps87
  go_wp2_with fail
  obtain ⟨Bq, hBq, upq⟩ := HP0.out.onD
  refine (revertB_any w b 657 Q.bb P.tb P.bb Bq hBq HSM.out.2.2.2.1.2.2).mono ?_
  rintro e w1 hst
  obtain ⟨rfl, hps⟩ := upq _ _ _ _ _ hst
  obtain ⟨S1, lkq, hpq⟩ := hps.out
  have HK1 := hide (HK0.out.trans lkq)
  have HP1 := hide hpq
  clear hBq upq hst hps lkq hpq Bq
  go_wp2_with fail
  obtain ⟨Bq, hBq, upq⟩ := HP1.out.onC
  refine (revertB_any w1 b 652 Q.ba P.ta P.ba Bq hBq HSM.out.2.2.1.2.2).mono ?_
  rintro e w2 hst
  obtain ⟨rfl, hps⟩ := upq _ _ _ _ _ hst
  obtain ⟨S2, lkq, hpq⟩ := hps.out
  have HK2 := hide (HK1.out.trans lkq)
  have HP2 := hide hpq
  clear hBq upq hst hps lkq hpq Bq
  go_wp2_with fail
  obtain ⟨Bq, hBq, upq⟩ := HP2.out.onB
  refine (revertL_any w2 b 326 Q.lb P.sb P.lb Bq hBq HSM.out.2.1.2.2).mono ?_
  rintro e w3 hst
  obtain ⟨rfl, hps⟩ := upq _ _ _ _ _ hst
  obtain ⟨S3, lkq, hpq⟩ := hps.out
  have HK3 := hide (HK2.out.trans lkq)
  have HP3 := hide hpq
  clear hBq upq hst hps lkq hpq Bq
  go_wp2_with fail
  obtain ⟨Bq, hBq, upq⟩ := HP3.out.onA
  refine (revertL_any w3 b 0 Q.la P.sa P.la Bq hBq HSM.out.1.2.2).mono ?_
  rintro e w4 hst
  obtain ⟨rfl, hps⟩ := upq _ _ _ _ _ hst
  obtain ⟨S4, lkq, hpq⟩ := hps.out
  have HK4 := hide (HK3.out.trans lkq)
  have HP4 := hide hpq
  clear hBq upq hst hps lkq hpq Bq
  go_wp2
  exact ⟨rfl, .tuple #[], by simp [results, Try.results87], rfl, HK4.out.step HP4.out⟩

end Go.Proofs.Qxb6500784a
