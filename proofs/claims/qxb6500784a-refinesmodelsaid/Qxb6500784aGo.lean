import Derived.Test.Qxb6500784aSb
namespace Go.Proofs.Qxb6500784a
open Go.RowKit

/-! ### GasOf, IsCross -/
def gasK (L : Nat → Leg) (T : Nat → List Int) (c : Int) : Nat → Int
  | 0 => 0
  | k + 1 => if (L k).ch = c then (gasK L T c k + gasP (T k)) % 18446744073709551616 else gasK L T c k
def onP (L : Nat → Leg) (c : Int) (k : Nat) : Bool := (List.range k).any fun i => decide ((L i).ch = c)
theorem onP_succ (L : Nat → Leg) (c : Int) (k : Nat) : onP L c (k + 1) = (onP L c k || decide ((L k).ch = c)) := by simp [onP, List.range_succ]
set_option linter.unusedSimpArgs false in
set_option maxRecDepth 100000 in
set_option maxHeartbeats 8000000 in
theorem isCross_any (w : World) (a : Option Addr) (n cap : Nat) (L : Nat → Leg) (hn : n ≤ 9223372036854775807) (hL : LegsAt w a n L) :
    Calls Try.prog 43 #[.agg #[.slice a n cap]] w fun e w' => e = .returned (.bool (onP L 1 n && onP L 2 n)) ∧ Below w.heap.size w w' := by
  have HL := hide hL
  clear hL
  have HBE := hide (be1 w (.cells #[.slice a n cap] 27))
  have HC := hide (newR w [.slice a n cap] 27 0 _ rfl)
  go_enter Try.func43, Try.ntmps43
  go_wp2
  obtain ⟨D, hD⟩ : ∃ D, w.heap.size = D := ⟨_, rfl⟩
  simp only [Nat.zero_add] at HC
  rw [hD] at HC ⊢
  have HD := hide hD
  clear hD
  generalize w.alloc (.cells #[.slice a n cap] 27) = w1 at *
  go_loopw [3, 4, 5] (fun s3 s4 s5 wr => ∃ k : Nat, k ≤ n ∧ s5 = .int .i64 k ∧ (s3 = .bool (onP L 1 k) ∧ s4 = .bool (onP L 2 k)) ∧ Below w1.heap.size w1 wr) (fun _ _ s5 _ => n - (intOf s5).toNat)
  case atStart => exact ⟨0, Nat.zero_le _, rfl, ⟨rfl, rfl⟩, Below.refl _ _⟩
  case round =>
    obtain ⟨k, hk, rfl, ⟨rfl, rfl⟩, hb⟩ := hrel
    have HB := hide hb
    clear hb
    have cD : wr.cell? ⟨D, 0, none⟩ = some (.slice a n cap) := cellKeep HB.out HC.out
    by_cases hlt : k < n
    · have d1 : decide ((k : Int) < (n : Int)) = true := by simp; omega
      have hki : (k : Int) < (n : Int) := by omega
      obtain ⟨lb, off, ha, hcs, hlo⟩ := (HL.out.below (lec HBE.out HB.out)) k hlt
      subst ha
      have cc : wr.cell? ⟨lb, off + k * 86 + 1, none⟩ = some (.int .u8 (L k).ch) := by rw [hcs 1 (by omega), hlo.v1]
      have HG1 := hide (onP_succ L 1 k)
      have HG2 := hide (onP_succ L 2 k)
      obtain ⟨c, hc⟩ : ∃ c, (L k).ch = c := ⟨_, rfl⟩
      rw [hc] at cc HG1 HG2
      clear hc hcs hlo
      generalize onP L 1 k = ga at *
      generalize onP L 2 k = gb at *
      obtain ⟨e1, he1⟩ : ∃ e, (c == 1) = e := ⟨_, rfl⟩
      obtain ⟨e2, he2⟩ : ∃ e, (c == 2) = e := ⟨_, rfl⟩
      have HE1 : Hid (decide (c = 1) = e1) := by rw [← he1]; simp only [Hid]; by_cases z : c = 1 <;> simp [z]
      have HE2 : Hid (decide (c = 2) = e2) := by rw [← he2]; simp only [Hid]; by_cases z : c = 2 <;> simp [z]
      rw [HE1.out] at HG1
      rw [HE2.out] at HG2
      clear HE1 HE2
      cases ga <;> cases gb
      all_goals
        go_wp2
        go_roundw
        case rel => exact ⟨k + 1, by omega, by go_num, ⟨by rw [HG1.out]; rfl, by rw [HG2.out]; rfl⟩, HB.out⟩
        case measure => simp [intOf]; omega
    · obtain rfl : k = n := by omega
      have d1 : decide ((k : Int) < (k : Int)) = false := by simp
      have HB2 := hide (lec HBE.out HB.out)
      cases h1 : onP L 1 k <;> cases h2 : onP L 2 k
      all_goals
        have HE := hide (And.intro h1 h2)
        clear h1 h2
        go_wp2
        go_ret
        exact ⟨by rw [HE.out.1, HE.out.2]; rfl, HB2.out⟩
attribute [-simp] Try.isAgg95 Try.sizeOf95 Try.typeInfo95 Try.isAgg92 Try.sizeOf92 Try.typeInfo92
set_option linter.unusedSimpArgs false in
set_option maxRecDepth 100000 in
set_option maxHeartbeats 8000000 in
theorem gasOf_any (w : World) (a : Option Addr) (n cap : Nat) (L : Nat → Leg) (T : Nat → List Int) (hn : n ≤ 9223372036854775807) (hL : LegsAt w a n L) (hV : ∀ i, i < n → LegV (legL (L i)) (L i).ch (T i)) :
    Calls Try.prog 42 #[.agg #[.slice a n cap]] w fun e w' => e = .returned (.tuple #[.int .u64 (gasK L T 1 n), .int .u64 (gasK L T 2 n)]) ∧ Below w.heap.size w w' := by
  have HL := hide hL
  have HV := hide hV
  clear hL hV
  have HBE := hide (be1 w (.cells #[.slice a n cap] 27))
  have HC := hide (newR w [.slice a n cap] 27 0 _ rfl)
  have HSZ : Hid ((w.alloc (.cells #[.slice a n cap] 27)).heap.size = w.heap.size + 1) := by simp [Hid]
  go_enter Try.func42, Try.ntmps42
  go_wp2
  obtain ⟨D, hD⟩ : ∃ D, w.heap.size = D := ⟨_, rfl⟩
  simp only [Nat.zero_add] at HC
  rw [hD] at HC HSZ ⊢
  have HD := hide hD
  clear hD
  generalize w.alloc (.cells #[.slice a n cap] 27) = w1 at *
  go_loopw [2, 3, 4] (fun s2 s3 s4 wr => ∃ k : Nat, k ≤ n ∧ s4 = .int .i64 k ∧ (s2 = .int .u64 (gasK L T 1 k) ∧ s3 = .int .u64 (gasK L T 2 k)) ∧ Below w1.heap.size w1 wr) (fun _ _ s4 _ => n - (intOf s4).toNat)
  case atStart => exact ⟨0, Nat.zero_le _, rfl, ⟨rfl, rfl⟩, Below.refl _ _⟩
  case round =>
    obtain ⟨k, hk, rfl, ⟨rfl, rfl⟩, hb⟩ := hrel
    have HB := hide hb
    clear hb
    have cD : wr.cell? ⟨D, 0, none⟩ = some (.slice a n cap) := cellKeep HB.out HC.out
    by_cases hlt : k < n
    · have d1 : decide ((k : Int) < (n : Int)) = true := by simp; omega
      have hki : (k : Int) < (n : Int) := by omega
      obtain ⟨lb, off, ha, hcs, -⟩ := (HL.out.below (lec HBE.out HB.out)) k hlt
      subst ha
      have cc : wr.cell? ⟨lb, off + k * 86 + 1, none⟩ = some (.int .u8 (L k).ch) := by
        have := (HV.out k hlt).c
        rw [legL_at _ (by omega)] at this
        injection this with this
        rw [hcs 1 (by omega), this]
      obtain ⟨V, hVV⟩ : ∃ V, kvs txk (T k) = V := ⟨_, rfl⟩
      have HVl : Hid (V.length = 83) := by rw [← hVV]; show (kvs txk (T k)).length = 83; rw [kvs_len, (HV.out k hlt).k.l]
      have HRV : Hid (wr.rangeAt lb (off + k * 86 + 2) V) := fun j v hv => by
        rw [← hVV] at hv
        have h1 := (HV.out k hlt).x j v hv
        have hj : j < 83 := by have := (List.getElem?_eq_some_iff.1 hv).1; rw [kvs_len, (HV.out k hlt).k.l] at this; exact this
        rw [legL_at _ (by omega)] at h1
        injection h1 with h1
        rw [← h1, show off + k * 86 + 2 + j = off + k * 86 + (2 + j) by omega]
        exact hcs (2 + j) (by omega)
      obtain ⟨gp, hgp⟩ : ∃ gp, gasP (T k) = gp := ⟨_, rfl⟩
      have HGC : Hid (Calls Try.prog 71 #[.agg V.toArray] wr fun e w' => e = .returned (.int .u64 gp) ∧ Below wr.heap.size wr w') := by
        have := gas_any wr (T k) (HV.out k hlt).k
        rw [hVV, hgp] at this
        exact this
      obtain ⟨c, hc⟩ : ∃ c, (L k).ch = c := ⟨_, rfl⟩
      have HG1 : Hid (gasK L T 1 (k + 1) = if c = 1 then (gasK L T 1 k + gp) % 18446744073709551616 else gasK L T 1 k) := by rw [← hc, ← hgp]; rfl
      have HG2 : Hid (gasK L T 2 (k + 1) = if c = 2 then (gasK L T 2 k + gp) % 18446744073709551616 else gasK L T 2 k) := by rw [← hc, ← hgp]; rfl
      rw [hc] at cc
      clear hVV hgp hc hcs
      generalize gasK L T 1 k = ga at *
      generalize gasK L T 2 k = gb at *
      go_upto_region 4 with fail
      go_wp2_with fail
      simp only [Try.sizeOf95, Result.andThen]
      rw [Oper.upon_value]
      by_cases c1 : c = 1
      · subst c1
        rw [if_pos rfl] at HG1
        rw [if_neg (by decide)] at HG2
        go_upto_region 6 with fail
        go_wp2_with fail
        simp only [Try.sizeOf95, Result.andThen]
        rw [Oper.upon_value]
        go_wp2_with fail
        simp only [Try.sizeOf92, Result.andThen, show ((83 : Nat) = 0) = False from by simp, ↓reduceIte]
        rw [Oper.upon_value]
        go_wp2_with fail
        simp only [Try.isAgg92, Try.sizeOf92, Result.andThen, ↓reduceIte, ldC wr lb (off + k * 86 + 2) V 83 HVl.out HRV.out]
        rw [Oper.upon_value]
        go_wp2_with (go_at_call 71; refine HGC.out.mono ?_; rintro e w5 ⟨rfl, hbe⟩; have HB5 := hide (lec HB.out hbe); clear hbe; simp only [])
        clear HGC HRV
        go_roundw
        case rel => exact ⟨k + 1, by omega, by go_num, ⟨by rw [HG1.out]; go_num, by rw [HG2.out]⟩, HB5.out⟩
        case measure => simp [intOf]; omega
      · have e1 : (c == 1) = false := by simp [c1]
        rw [if_neg c1] at HG1
        by_cases c2 : c = 2
        · subst c2
          rw [if_pos rfl] at HG2
          go_upto_region 8 with fail
          go_wp2_with fail
          simp only [Try.sizeOf95, Result.andThen]
          rw [Oper.upon_value]
          go_wp2_with fail
          simp only [Try.sizeOf92, Result.andThen, show ((83 : Nat) = 0) = False from by simp, ↓reduceIte]
          rw [Oper.upon_value]
          go_wp2_with fail
          simp only [Try.isAgg92, Try.sizeOf92, Result.andThen, ↓reduceIte, ldC wr lb (off + k * 86 + 2) V 83 HVl.out HRV.out]
          rw [Oper.upon_value]
          go_wp2_with (go_at_call 71; refine HGC.out.mono ?_; rintro e w5 ⟨rfl, hbe⟩; have HB5 := hide (lec HB.out hbe); clear hbe; simp only [])
          clear HGC HRV
          go_roundw
          case rel => exact ⟨k + 1, by omega, by go_num, ⟨by rw [HG1.out], by rw [HG2.out]; go_num⟩, HB5.out⟩
          case measure => simp [intOf]; omega
        · have e2 : (c == 2) = false := by simp [c2]
          rw [if_neg c2] at HG2
          go_wp2
          go_roundw
          case rel => exact ⟨k + 1, by omega, by go_num, ⟨by rw [HG1.out], by rw [HG2.out]⟩, HB.out⟩
          case measure => simp [intOf]; omega
    · obtain rfl : k = n := by omega
      have d1 : decide ((k : Int) < (k : Int)) = false := by simp
      go_wp2
      go_ret2
      exact ⟨rfl, lec HBE.out HB.out⟩
end Go.Proofs.Qxb6500784a
