import Derived.Test.Qxb6500784aBuild2
import Derived.Test.Qxb6500784aSort
namespace Go.Proofs.Qxb6500784a
open Go.RowKit

open Classical in
noncomputable def needM (n : Nat) (L : Nat → Leg) : Nat → Nat := if h : ∃ m, NeedBits n L m then Classical.choose h else fun _ => 0
theorem needM_eq {n : Nat} {L : Nat → Leg} {m : Nat → Nat} (h : NeedBits n L m) : m = needM n L := by
  have hx : ∃ m, NeedBits n L m := ⟨m, h⟩
  have hc : NeedBits n L (needM n L) := by unfold needM; rw [dif_pos hx]; exact Classical.choose_spec hx
  funext i
  refine Nat.eq_of_testBit_eq fun j => ?_
  have a := h i j
  have b := hc i j
  cases h1 : (m i).testBit j <;> cases h2 : (needM n L i).testBit j
  · rfl
  · exact absurd (a.2 (b.1 h2)) (by rw [h1]; simp)
  · exact absurd (b.2 (a.1 h1)) (by rw [h2]; simp)
  · rfl
noncomputable def ordCode (n : Nat) (L : Nat → Leg) : Int := if bCode n L ≠ 0 then bCode n L else if stuckP n (needM n L) ≠ 0 then 67 else 0
theorem firstCode_mem {L : Nat → Leg} : ∀ (k i : Nat), firstCode L k i = 0 ∨ firstCode L k i = 62 ∨ firstCode L k i = 63 ∨ firstCode L k i = 64
  | 0, _ => Or.inl rfl
  | k + 1, i => by
    unfold firstCode
    split
    · exact firstCode_mem k (i + 1)
    · unfold legCode
      split
      · split
        · split <;> simp
        · simp
      · simp
theorem bCode_zero {n : Nat} {L : Nat → Leg} (h : bCode n L = 0) : 0 < n ∧ n ≤ 8 := by
  unfold bCode at h
  split at h
  · cases h
  · split at h
    · cases h
    · omega
theorem bCode_ne {n : Nat} {L : Nat → Leg} : bCode n L ≠ 67 := by
  unfold bCode
  rcases firstCode_mem (L := L) n 0 with h | h | h | h <;> rw [h] <;> (repeat' split) <;> decide
theorem ownsRow_base {w : World} {B B' e s : Nat} {v : Value} {n : Nat} {xs : List Value} (h : w.ownsRow B e s v n xs) (hB : B' ≤ B) : w.ownsRow B' e s v n xs := by
  obtain ⟨h1, h2 | ⟨g, cap, cur, a, b, c⟩⟩ := h
  · exact ⟨h1, Or.inl h2⟩
  · exact ⟨h1, Or.inr ⟨g, cap, cur, a, Nat.le_trans hB b, c⟩⟩
theorem galloc (w : World) (gn : Int) (m : Nat → Nat) : G9 (w.alloc (.cells #[.int .i64 gn, .int .u8 (m 0), .int .u8 (m 1), .int .u8 (m 2), .int .u8 (m 3), .int .u8 (m 4), .int .u8 (m 5), .int .u8 (m 6), .int .u8 (m 7)] 108)) w.heap.size gn m := by
  refine ⟨by simp [go_sem], fun j hj => ?_, fun j => by simp [go_sem]⟩
  rcases (by omega : j = 0 ∨ j = 1 ∨ j = 2 ∨ j = 3 ∨ j = 4 ∨ j = 5 ∨ j = 6 ∨ j = 7) with e | e | e | e | e | e | e | e <;> subst e <;> simp [go_sem]
theorem ordCode_bad {n : Nat} {L : Nat → Leg} (h : bCode n L ≠ 0) : ordCode n L = bCode n L := by unfold ordCode; rw [if_pos h]
theorem ordCode_cyc {n : Nat} {L : Nat → Leg} (h : bCode n L = 0) (hs : stuckP n (needM n L) ≠ 0) : ordCode n L = 67 := by unfold ordCode; rw [if_neg (by simp [h]), if_pos hs]
theorem ordCode_ok {n : Nat} {L : Nat → Leg} (h : bCode n L = 0) (hs : stuckP n (needM n L) = 0) : ordCode n L = 0 := by unfold ordCode; rw [if_neg (by simp [h]), if_neg (by simp [hs])]
set_option maxRecDepth 100000 in
set_option maxHeartbeats 4000000 in
theorem order_any (w : World) (a : Option Addr) (n cap : Nat) (L : Nat → Leg) (hn : n ≤ 9223372036854775807) (hL : LegsAt w a n L) :
    Calls Try.prog 13 #[.agg #[.slice a n cap]] w fun e w' => ∃ v, e = .returned (.tuple #[v, .int .i64 (ordCode n L)]) ∧ Below w.heap.size w w' ∧ (ordCode n L ≠ 0 → v = .slice none 0 0) ∧
      (ordCode n L = 0 → w'.ownsRow w.heap.size 3 1 v (sortP n (needM n L)).1.length (vals (sortP n (needM n L)).1)) := by
  have HL := hide hL
  clear hL
  go_enter Try.func13, Try.ntmps13
  go_wp2_with fail
  have HB0 : Hid (Below w.heap.size w (w.alloc (.cells #[.slice a n cap] 27))) := (Below.refl _ _).alloc (Nat.le_refl _) _
  refine (build_any _ a n cap L hn (HL.out.below HB0.out)).mono ?_
  rintro e w1 ⟨gn, m, rfl, hm, hz, hb⟩
  have HM := hide hm
  have HZ := hide hz
  have HB1 : Hid (Below w.heap.size w w1) := HB0.out.trans (hb.mono HB0.out.size)
  clear hm hz hb HB0
  simp only [gArr]
  go_upto_region 2 with fail
  obtain ⟨W, hW⟩ : ∃ W, W = (w1.alloc (.cells #[.int .i64 gn, .int .u8 (m 0), .int .u8 (m 1), .int .u8 (m 2), .int .u8 (m 3), .int .u8 (m 4), .int .u8 (m 5), .int .u8 (m 6), .int .u8 (m 7)] 108)) := ⟨_, rfl⟩
  have HG : Hid (G9 W w1.heap.size gn m) := by rw [hW]; exact galloc w1 gn m
  have HB2 : Hid (Below w.heap.size w W) := by rw [hW]; exact HB1.out.alloc HB1.out.size _
  rw [← hW]
  clear hW HB1
  by_cases hz : bCode n L = 0
  · rw [hz]
    obtain ⟨h0, h8⟩ := bCode_zero hz
    obtain ⟨rfl, hnb⟩ := HZ.out hz
    have he := needM_eq hnb
    have HE := hide he
    have HZ0 := hide hz
    clear HZ hz hnb he
    go_wp2_with fail
    refine (sort_any _ _ n m h0 h8 HM.out HG.out).mono ?_
    rintro e w2 ⟨v, rfl, hown, hb2⟩
    have HO := hide hown
    have HB3 : Hid (Below w.heap.size w w2) := HB2.out.trans (hb2.mono HB2.out.size)
    clear hown hb2
    by_cases hs : stuckP n m = 0
    · rw [hs]
      have HC : Hid (ordCode n L = 0) := ordCode_ok HZ0.out (by rw [← HE.out]; exact hs)
      go_wp2
      refine bodyPost_ret (v := .tuple #[v, .int .i64 0]) (by simp [results, Try.results13, go_sem]) rfl ⟨v, by rw [HC.out], HB3.out, fun h => absurd HC.out h, fun _ => ?_⟩
      rw [← HE.out]
      exact ownsRow_base HO.out HB2.out.size
    · have HC : Hid (ordCode n L = 67) := ordCode_cyc HZ0.out (by rw [← HE.out]; exact hs)
      go_wp2
      refine bodyPost_ret (v := .tuple #[.slice none 0 0, .int .i64 67]) (by simp [results, Try.results13, go_sem]) rfl ⟨_, by rw [HC.out], HB3.out, fun _ => rfl, fun h => ?_⟩
      rw [HC.out] at h; cases h
  · have HC : Hid (ordCode n L = bCode n L) := ordCode_bad hz
    have HZ0 := hide hz
    go_wp2
    refine bodyPost_ret (v := .tuple #[.slice none 0 0, .int .i64 (bCode n L)]) (by simp [results, Try.results13, go_sem]) rfl ⟨_, by rw [HC.out], HB2.out, fun _ => rfl, fun h => ?_⟩
    rw [HC.out] at h; exact absurd h HZ0.out
end Go.Proofs.Qxb6500784a
