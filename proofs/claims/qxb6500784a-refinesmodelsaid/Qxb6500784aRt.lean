import Derived.Test.Qxb6500784aSum
import Derived.Test.Qxb6500784aCs
namespace Go.Proofs.Qxb6500784a
open Go.RowKit

/-! ### The root of a ledger -/
def flatN (l : List Int) (i : Nat) : List Int := (List.range i).flatMap fun j => putP (fld l j)
theorem flatN_succ (l : List Int) (i : Nat) : flatN l (i + 1) = flatN l i ++ putP (fld l i) := by simp [flatN, List.range_succ]
theorem flatN_len (l : List Int) (i : Nat) : (flatN l i).length = 8 * i := by
  induction i with
  | zero => rfl
  | succ i ih => rw [flatN_succ, List.length_append, ih, putP, putN_len]; omega
def rootP (l : Led0) : List Int := shaP (flatN l.non 64 ++ flatN l.bal 256)
theorem rootP_len (l : Led0) : (rootP l).length = 32 := dgK_len _ _
theorem BB.from0 {w : World} {B : Nat} {v : Value} {X : List Int} (h : BB w B v X) : BB w 0 v X := ⟨h.1, h.2.imp id fun ⟨g, cap, cur, h1, _, h3⟩ => ⟨g, cap, cur, h1, Nat.zero_le _, h3⟩⟩
attribute [-simp] Try.isAgg63 Try.sizeOf63 Try.typeInfo63
set_option linter.unusedSimpArgs false in
set_option maxRecDepth 100000 in
set_option maxHeartbeats 4000000 in
/-- ledgerm.Root -/
theorem root_any (w : World) (b o : Nat) (l : Led0) (sv : List Led0) (B : List Nat) (h : LA w b o l sv B) :
    Calls Try.prog 24 #[.pointer (some ⟨b, o, none⟩)] w fun e w' => e = .returned (.agg (u8s (rootP l)).toArray) ∧ Below w.heap.size w w' := by
  obtain ⟨i3, hi3, hz3, hy3, _⟩ := info_parts Try.inf63
  obtain ⟨F, hF⟩ : ∃ F, u8s (rootP l) = F := ⟨_, rfl⟩
  have HF := hide hF
  have HFl : Hid (F.length = 32) := by rw [← hF]; show (u8s (rootP l)).length = 32; simp [u8s, rootP_len]
  have HF1 : Hid (∀ u ∈ F, u.oneCell' = true) := by rw [← hF]; exact u8s_one _
  rw [hF]
  clear hF
  have HL := hide h
  clear h
  go_enter Try.func24, Try.ntmps24
  refine wp_seq ?_
  refine wp_region_lit ?_
  refine wpL_alloc rfl 63 rfl i3 hi3 _ hz3 ?_
  rw [show (Value.agg (u8s (List.replicate 32 0)).toArray).cells = (u8s (List.replicate 32 0)).toArray from rfl]
  have HT := hide (newTz w (u8s (List.replicate 32 0)).toArray 63)
  have HBE := hide (be1 w (.cells (u8s (List.replicate 32 0)).toArray 63))
  rw [show (u8s (List.replicate 32 0)).toArray.size = 32 by kernel_rfl] at HT
  obtain ⟨D, hD⟩ : ∃ D, w.heap.size = D := ⟨_, rfl⟩
  have HD := hide hD
  have HS1 : Hid ((w.alloc (.cells (u8s (List.replicate 32 0)).toArray 63)).heap.size = D + 1) := by show _ = _; rw [← hD]; simp
  rw [hD] at HT ⊢
  generalize w.alloc (.cells (u8s (List.replicate 32 0)).toArray 63) = w1 at *
  clear hD
  have HN0 : Hid (NBf w1 w1 (.slice none 0 0) []) := ⟨World.ownsRow_nil _ _ _ _, Below.refl _ _⟩
  go_upto_block 0 with fail
  go_cut [3] (fun x wr => ∃ (a : Option Addr) (c : Nat) (Q : List Int), x = .slice a Q.length c ∧ Hid (Q = flatN l.non 64) ∧ NBf w1 wr (.slice a Q.length c) Q)
  case first =>
    go_wp2
    go_loopw [3, 4] (fun x y wr => ∃ (k : Nat) (a : Option Addr) (c : Nat) (Q : List Int), k ≤ 64 ∧ y = .int .i64 k ∧ x = .slice a Q.length c ∧ Hid (Q = flatN l.non k) ∧ NBf w1 wr (.slice a Q.length c) Q) (fun _ y _ => 64 - (intOf y).toNat)
    case atStart => exact ⟨0, none, 0, [], by omega, rfl, rfl, rfl, HN0.out⟩
    case round =>
      clear HN0
      obtain ⟨k, a, c, Q, hk, rfl, rfl, HQ, hb⟩ := hrel
      have HB := hide hb
      clear hb
      by_cases hlt : k < 64
      · have d1 : decide ((k : Int) < 64) = true := by simp; omega
        have hki : (k : Int) < 64 := by omega
        have HLw := hide (HL.out.below (lec HBE.out HB.out.be))
        obtain ⟨x, hx⟩ : ∃ x, fld l.non k = x := ⟨_, rfl⟩
        have cb : wr.cell? ⟨b, o + 257 + k, none⟩ = some (.int .u64 x) := by
          rw [show o + 257 + k = o + (257 + k) by omega, ← hx]
          exact HLw.out.cell (fun m s => Led0.atN HLw.out.ok m s (non_at HLw.out.ok (j := k) (by omega)))
        have HX := hide hx
        clear hx
        obtain ⟨B0, hB0⟩ : ∃ B0, w1.heap.size = B0 := ⟨_, rfl⟩
        have HBQ : Hid (BB wr B0 (.slice a Q.length c) Q) := by rw [← hB0]; exact HB.out.bb
        have HBS : Hid (B0 ≤ wr.heap.size) := by rw [← hB0]; exact HB.out.be.size
        have HQL : Hid (Q.length = 8 * k) := by show Q.length = _; rw [HQ.out, flatN_len]
        have HB0 := hide hB0
        clear hB0
        go_upto_region 5 with fail
        go_wp2_with (go_at_call 57; refine (put_any _ B0 (.slice a Q.length c) Q x HBQ.out HBS.out (by have := HQL.out; omega)).mono ?_; rintro e wq ⟨v', rfl, hbg⟩; have HG := hide hbg; clear hbg; obtain ⟨a', c', e'⟩ := own_form HG.out.bb; subst e'; simp only [])
        obtain ⟨Q2, hQ2⟩ : ∃ Q2, Q ++ putP x = Q2 := ⟨_, rfl⟩
        rw [hQ2] at HG ⊢
        have HQ2 : Hid (Q2 = flatN l.non (k + 1)) := by show Q2 = _; rw [flatN_succ, HX.out, ← HQ.out, hQ2]
        clear hQ2
        have HN2 : Hid (NBf w1 wq (.slice a' Q2.length c') Q2) := HB.out.step (by rw [HB0.out]; exact HG.out)
        clear HB HG HBQ HBS HQL HX HQ HLw cb
        go_roundw
        case rel => exact ⟨k + 1, a', c', Q2, by omega, by go_num, rfl, HQ2, HN2.out⟩
        case measure => simp [intOf]; omega
      · obtain rfl : k = 64 := by omega
        go_wp2
        go_meet
        exact ⟨a, c, Q, rfl, HQ, HB.out⟩
  obtain ⟨a1, c1, X1, rfl, HX1, hnb⟩ := hcut
  have HN1 := hide hnb
  clear hnb HN0
  obtain ⟨w2, hw2⟩ : ∃ W', W' = wc := ⟨_, rfl⟩
  subst hw2
  have HL1 : Hid (X1.length = 512) := by show X1.length = _; rw [HX1.out, flatN_len]
  go_wp2
  go_loopw [3, 18] (fun x y wr => ∃ (k : Nat) (a : Option Addr) (c : Nat) (Q : List Int), k ≤ 256 ∧ y = .int .i64 k ∧ x = .slice a Q.length c ∧ Hid (Q = X1 ++ flatN l.bal k) ∧ NBf w1 wr (.slice a Q.length c) Q) (fun _ y _ => 256 - (intOf y).toNat)
  case atStart => exact ⟨0, a1, c1, X1, by omega, rfl, rfl, by simp [flatN, Hid], HN1.out⟩
  case round =>
    clear HN1
    obtain ⟨k, a, c, Q, hk, rfl, rfl, HQ, hb⟩ := hrel
    have HB := hide hb
    clear hb
    by_cases hlt : k < 256
    · have d1 : decide ((k : Int) < 256) = true := by simp; omega
      have hki : (k : Int) < 256 := by omega
      have HLw := hide (HL.out.below (lec HBE.out HB.out.be))
      obtain ⟨x, hx⟩ : ∃ x, fld l.bal k = x := ⟨_, rfl⟩
      have cb : wr.cell? ⟨b, o + 1 + k, none⟩ = some (.int .u64 x) := by
        rw [show o + 1 + k = o + (1 + k) by omega, ← hx]
        exact HLw.out.cell (fun m s => Led0.atB m s (bal_at HLw.out.ok (j := k) (by omega)))
      have HX := hide hx
      clear hx
      obtain ⟨B0, hB0⟩ : ∃ B0, w1.heap.size = B0 := ⟨_, rfl⟩
      have HBQ : Hid (BB wr B0 (.slice a Q.length c) Q) := by rw [← hB0]; exact HB.out.bb
      have HBS : Hid (B0 ≤ wr.heap.size) := by rw [← hB0]; exact HB.out.be.size
      have HQL : Hid (Q.length = 512 + 8 * k) := by show Q.length = _; rw [HQ.out, List.length_append, HL1.out, flatN_len]
      have HB0 := hide hB0
      clear hB0
      go_upto_region 9 with fail
      go_wp2_with (go_at_call 57; refine (put_any _ B0 (.slice a Q.length c) Q x HBQ.out HBS.out (by have := HQL.out; omega)).mono ?_; rintro e wq ⟨v', rfl, hbg⟩; have HG := hide hbg; clear hbg; obtain ⟨a', c', e'⟩ := own_form HG.out.bb; subst e'; simp only [])
      obtain ⟨Q2, hQ2⟩ : ∃ Q2, Q ++ putP x = Q2 := ⟨_, rfl⟩
      rw [hQ2] at HG ⊢
      have HQ2 : Hid (Q2 = X1 ++ flatN l.bal (k + 1)) := by show Q2 = _; rw [flatN_succ, HX.out, ← List.append_assoc, ← HQ.out, hQ2]
      clear hQ2
      have HN2 : Hid (NBf w1 wq (.slice a' Q2.length c') Q2) := HB.out.step (by rw [HB0.out]; exact HG.out)
      clear HB HG HBQ HBS HQL HX HQ HLw cb
      go_roundw
      case rel => exact ⟨k + 1, a', c', Q2, by omega, by go_num, rfl, HQ2, HN2.out⟩
      case measure => simp [intOf]; omega
    · obtain rfl : k = 256 := by omega
      have HQ3 : Hid (shaP Q = rootP l) := by show _ = _; rw [rootP, HQ.out, HX1.out]
      have HQL : Hid (Q.length = 2560) := by show Q.length = _; rw [HQ.out, List.length_append, HL1.out, flatN_len]
      have HBB : Hid (BB wr 0 (.slice a Q.length c) Q) := BB.from0 HB.out.bb
      go_upto_region 11 with fail
      go_wp2_with (go_at_call 58; refine (sum_any _ (.slice a Q.length c) Q HBB.out HQL.out).mono ?_; rintro e wq ⟨rfl, hbe⟩; have HBQ := hide hbe; clear hbe; rw [HQ3.out, HF.out]; simp only [])
      have HT6 : Hid (wq.there D 0 32) := there_below (there_below HT.out (by have := HS1.out; omega) HB.out.be) (by have := HS1.out; have := HB.out.be.size; omega) HBQ.out
      have HB6 : Hid (Below w.heap.size w wq) := lec (lec HBE.out HB.out.be) HBQ.out
      simp only [Try.sizeOf63, Result.andThen, HFl.out, ↓reduceIte, stC wq D 0 F (by rw [HFl.out]; exact HT6.out) HF1.out]
      rw [Oper.upon_skip]
      have HRZ := hide (World.rangeAt_setCells_same wq D 0 F (by rw [HFl.out]; exact HT6.out))
      have HB7 : Hid (Below w.heap.size w (wq.setCells D 0 F)) := HB6.out.trans ((Ex.sets (S := fun j => j = D) rfl F 0 wq (Ex.refl _ _)).below HB6.out.size (fun j hj e => by have := HD.out; omega))
      generalize wq.setCells D 0 F = wz at *
      clear HB HBB HB6 HT6 HBQ HQ3 HQL
      go_wp2_with fail
      exact bodyPost_ret (v := .agg F.toArray) (res_cell Try.results24 rfl (run_loadVar_mid wz D 0 63 F _ HRZ.out Try.underlying63 rfl (by rw [HFl.out]; exact Try.sz63))) rfl ⟨rfl, by rw [← HD.out]; exact HB7.out⟩
end Go.Proofs.Qxb6500784a
