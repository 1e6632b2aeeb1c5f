import Derived.Test.Qxb6500776aLkp
namespace Go.Proofs.Qxb6500776a
open Go.RowKit

/-- The first n marks as a list. -/
def repN (B : Brd) : Nat → List Det
  | 0 => []
  | n + 1 => repN B n ++ (if (lkP B (n / 192 : Nat) (n % 192 / 4 : Nat) (n % 4 : Nat)).2 then [(lkP B (n / 192 : Nat) (n % 192 / 4 : Nat) (n % 4 : Nat)).1] else [])
theorem repN_len (B : Brd) : ∀ n, (repN B n).length ≤ n
  | 0 => by simp [repN]
  | n + 1 => by
    have := repN_len B n
    rw [repN, List.length_append]
    split <;> simp <;> omega
theorem repN_at (B : Brd) {T i k : Nat} (hi : i < 48) (hk : k < 4) : repN B (T * 192 + i * 4 + k + 1) = repN B (T * 192 + i * 4 + k) ++ (if (lkP B T i k).2 then [(lkP B T i k).1] else []) := by
  rw [repN]
  have e1 : (T * 192 + i * 4 + k) / 192 = T := by omega
  have e2 : (T * 192 + i * 4 + k) % 192 / 4 = i := by omega
  have e3 : (T * 192 + i * 4 + k) % 4 = k := by omega
  rw [e1, e2, e3]
/-- A list of records, in memory. -/
def DRow (w : World) (b : Nat) (v : Value) (Ds : List Det) : Prop := w.ownsRow b 58 6 v Ds.length (Ds.flatMap Det.vals)
theorem DRow.below {w w' : World} {b : Nat} {v : Value} {Ds : List Det} (h : DRow w b v Ds) (hb : Below w.heap.size w w') : DRow w' b v Ds := own_kept h (Ex.of (S := fun _ => False) hb) (fun _ _ e => e)
theorem bel_grown {w W w3 : World} {v : Value} {Ds : List Det} (h : Below w.heap.size w W) (hr : DRow W w.heap.size v Ds) (hg : W.grownBy w3 v.ownBlock) : Below w.heap.size w w3 := by
  refine h.trans ⟨hg.os, hg.tape, hg.output, hg.size, fun k hk => ?_⟩
  refine hg.block k (by have := h.size; omega) fun e => ?_
  have := (hr.lt k e.symm).1
  omega
theorem dvals_one (s : Det) : ∀ u ∈ s.vals, u.oneCell' = true := by
  intro u hu
  simp [Det.vals] at hu
  rcases hu with rfl | rfl | rfl | rfl | rfl | rfl <;> rfl
def RepPost (w : World) (Ds : List Det) (e : Ending) (w' : World) : Prop := ∃ v, e = .returned v ∧ DRow w' w.heap.size v Ds ∧ Below w.heap.size w w'
set_option maxRecDepth 100000 in
set_option maxHeartbeats 2000000 in
theorem report_any (w : World) (s : Nat) (B : Brd) (h : BRD w s B) :
    Calls Try.prog 37 #[.pointer (some ⟨s, 0, none⟩)] w (RepPost w (repN B 768)) := by
  have HB := hide h
  clear h
  obtain ⟨i0, hi0, hz0, hz1, hz2⟩ : ∃ i0, Try.prog.info? 58 = some i0 ∧ i0.zero = some (.agg #[.int .i64 0, .int .i64 0, .int .i64 0, .int .i64 0, .int .i64 0, .int .i64 0]) ∧ i0.size = 6 ∧ i0.bytes = 48 := ⟨_, rfl, rfl, rfl, rfl⟩
  go_enter Try.func37, Try.ntmps37
  go_wp2
  go_loopw [3, 4] (fun sv sT wr => ∃ (T : Nat) (a : Option Addr) (c : Nat), T ≤ 4 ∧ sT = .int .i64 T ∧ sv = .slice a (repN B (T * 192)).length c ∧ DRow wr w.heap.size (.slice a (repN B (T * 192)).length c) (repN B (T * 192)) ∧ Below w.heap.size w wr) (fun _ sT _ => 4 - (intOf sT).toNat)
  case atStart => exact ⟨0, none, 0, by omega, rfl, rfl, World.ownsRow_nil _ _ _ _, Below.refl _ _⟩
  case round =>
    obtain ⟨T, a, c, hT, rfl, rfl, hr, hb⟩ := hrel
    have HR := hide hr
    have HE := hide hb
    clear hr hb
    by_cases hT4 : T < 4
    · have hT4i : (T : Int) < 4 := by omega
      go_wp2
      go_loopw [3, 5] (fun sv sI wr => ∃ (I : Nat) (a : Option Addr) (c : Nat), I ≤ 48 ∧ sI = .int .i64 I ∧ sv = .slice a (repN B (T * 192 + I * 4)).length c ∧ DRow wr w.heap.size (.slice a (repN B (T * 192 + I * 4)).length c) (repN B (T * 192 + I * 4)) ∧ Below w.heap.size w wr) (fun _ sI _ => 48 - (intOf sI).toNat)
      case atStart => exact ⟨0, a, c, by omega, rfl, rfl, HR.out, HE.out⟩
      case round =>
        clear HR HE
        obtain ⟨I, a, c, hI, rfl, rfl, hr, hb⟩ := hrel
        have HR := hide hr
        have HE := hide hb
        clear hr hb
        by_cases hI48 : I < 48
        · have hI48i : (I : Int) < 48 := by omega
          go_wp2
          go_loopw [3, 6] (fun sv sK wr => ∃ (K : Nat) (a : Option Addr) (c : Nat), K ≤ 4 ∧ sK = .int .i64 K ∧ sv = .slice a (repN B (T * 192 + I * 4 + K)).length c ∧ DRow wr w.heap.size (.slice a (repN B (T * 192 + I * 4 + K)).length c) (repN B (T * 192 + I * 4 + K)) ∧ Below w.heap.size w wr) (fun _ sK _ => 4 - (intOf sK).toNat)
          case atStart => exact ⟨0, a, c, by omega, rfl, rfl, HR.out, HE.out⟩
          case round =>
            clear HR HE
            obtain ⟨K, a, c, hK, rfl, rfl, hr, hb⟩ := hrel
            have HR := hide hr
            have HE := hide hb
            clear hr hb
            by_cases hK4 : K < 4
            · have hK4i : (K : Int) < 4 := by omega
              have HX := hide (repN_at B (T := T) hI48 hK4)
              obtain ⟨Ds, hDs⟩ : ∃ Ds, repN B (T * 192 + I * 4 + K) = Ds := ⟨_, rfl⟩
              have hlen : Ds.length ≤ 768 := by have := repN_len B (T * 192 + I * 4 + K); rw [hDs] at this; omega
              rw [hDs] at HR HX ⊢
              clear hDs
              go_wp2_with fail
              refine (lookup_any _ s B (HB.out.below HE.out) T I K).mono ?_
              rintro e w2 ⟨rfl, b2⟩
              replace HR := hide (HR.out.below b2)
              replace HE := hide (lec HE.out b2)
              clear b2
              obtain ⟨r, hr⟩ : ∃ r, lkP B T I K = r := ⟨_, rfl⟩
              rw [hr] at HX ⊢
              clear hr
              obtain ⟨⟨ra, rb, rc, rd, re, rg⟩, rs⟩ := r
              dsimp only at HX ⊢
              cases rs
              · have HX' := hide (show repN B (T * 192 + I * 4 + (K + 1)) = Ds by have := HX.out; rw [show T * 192 + I * 4 + (K + 1) = T * 192 + I * 4 + K + 1 by omega, this]; simp)
                go_wp2
                go_roundw
                case rel =>
                  refine ⟨K + 1, a, c, by omega, by simp, ?_, ?_, lec HE.out (be1 _ _)⟩
                  · rw [HX'.out]
                  · rw [HX'.out]; exact HR.out.below (be1 _ _)
                case measure => simp [intOf]; omega
              · have HX' := hide (show repN B (T * 192 + I * 4 + (K + 1)) = Ds ++ [⟨ra, rb, rc, rd, re, rg⟩] by have := HX.out; rw [show T * 192 + I * 4 + (K + 1) = T * 192 + I * 4 + K + 1 by omega, this]; simp)
                go_upto_region 13 with fail
                have HR3 := hide (HR.out.below (be2 w2 (.cells #[.int .i64 ra, .int .i64 rb, .int .i64 rc, .int .i64 rd, .int .i64 re, .int .i64 rg] 58) (.cells #[.int .i64 ra, .int .i64 rb, .int .i64 rc, .int .i64 rd, .int .i64 re, .int .i64 rg] 58)))
                have HE3 := hide (lec HE.out (be2 w2 (.cells #[.int .i64 ra, .int .i64 rb, .int .i64 rc, .int .i64 rd, .int .i64 re, .int .i64 rg] 58) (.cells #[.int .i64 ra, .int .i64 rb, .int .i64 rc, .int .i64 rd, .int .i64 re, .int .i64 rg] 58)))
                have HNC := hide (show ∀ (j : Nat) (u : Value), (Det.vals ⟨ra, rb, rc, rd, re, rg⟩)[j]? = some u → ((w2.alloc (.cells #[.int .i64 ra, .int .i64 rb, .int .i64 rc, .int .i64 rd, .int .i64 re, .int .i64 rg] 58)).alloc (.cells #[.int .i64 ra, .int .i64 rb, .int .i64 rc, .int .i64 rd, .int .i64 re, .int .i64 rg] 58)).cell? ((⟨w2.heap.size + 1, 0, none⟩ : Addr).add j) = some u from fun j u hj => by
                  have e : (w2.alloc (.cells #[.int .i64 ra, .int .i64 rb, .int .i64 rc, .int .i64 rd, .int .i64 re, .int .i64 rg] 58)).heap.size = w2.heap.size + 1 := by simp
                  rw [← e]
                  exact new_cells _ (Det.vals ⟨ra, rb, rc, rd, re, rg⟩) 58 j u hj)
                have HV := hide (dvals_one ⟨ra, rb, rc, rd, re, rg⟩)
                have HSZ := hide (show w.heap.size ≤ ((w2.alloc (.cells #[.int .i64 ra, .int .i64 rb, .int .i64 rc, .int .i64 rd, .int .i64 re, .int .i64 rg] 58)).alloc (.cells #[.int .i64 ra, .int .i64 rb, .int .i64 rc, .int .i64 rd, .int .i64 re, .int .i64 rg] 58)).heap.size from HE3.out.size)
                have HMX := hide (show Ds.length + 1 ≤ maxLen ∧ (Ds.length + 1) * 48 ≤ 140737488355328 by unfold maxLen; omega)
                go_wp2_with (at_builtin; go_loud (refine wpList_append_own _ rfl (.tmp 30) (.tmp 32) 34 rfl w.heap.size 58 i0 _ 6 48 Try.underlying34 hi0 hz0 hz1 hz2 rfl (by decide) (.slice a Ds.length c) Ds.length (Ds.flatMap Det.vals) rfl HR3.out _ 1 1 (Det.vals ⟨ra, rb, rc, rd, re, rg⟩) rfl rfl HNC.out HV.out HMX.out.1 HMX.out.2 HSZ.out ?_; intro v' w3 hown hgrow hnil; have HE4 := hide (bel_grown HE3.out HR3.out hgrow); have HR4 := hide hown; obtain ⟨a4, c4, rfl⟩ := own_form hown; clear hown hgrow hnil))
                go_roundw
                case rel =>
                  refine ⟨K + 1, a4, c4, by omega, by simp, ?_, ?_, HE4.out⟩
                  · rw [HX'.out]; simp
                  · rw [HX'.out]
                    have := HR4.out
                    show World.ownsRow _ _ _ _ _ _ _
                    simpa using this
                case measure => simp [intOf]; omega
            · obtain rfl : K = 4 := by omega
              go_wp2
              go_roundw
              case rel =>
                refine ⟨I + 1, a, c, by omega, by simp, ?_, ?_, HE.out⟩
                · rw [show T * 192 + (I + 1) * 4 = T * 192 + I * 4 + 4 by omega]
                · rw [show T * 192 + (I + 1) * 4 = T * 192 + I * 4 + 4 by omega]; exact HR.out
              case measure => simp [intOf]; omega
        · obtain rfl : I = 48 := by omega
          go_wp2
          go_roundw
          case rel =>
            refine ⟨T + 1, a, c, by omega, by simp, ?_, ?_, HE.out⟩
            · rw [show (T + 1) * 192 = T * 192 + 48 * 4 by omega]
            · rw [show (T + 1) * 192 = T * 192 + 48 * 4 by omega]; exact HR.out
          case measure => simp [intOf]; omega
    · obtain rfl : T = 4 := by omega
      go_wp2
      go_ret
      exact ⟨_, rfl, HR.out, HE.out⟩
end Go.Proofs.Qxb6500776a
