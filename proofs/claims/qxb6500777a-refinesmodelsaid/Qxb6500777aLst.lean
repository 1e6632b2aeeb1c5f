import Derived.Test.Qxb6500777aWd
import Derived.Test.Qxb6500777aFus
namespace Go.Proofs.Qxb6500777a
open Go.RowKit

/-- The first n records that are pending, as a list. -/
def detN (G : Nat → Int) (n : Nat) : Det := ⟨(n / 448 : Nat), (n % 448 / 4 : Nat), (n % 4 : Nat), G n⟩
def lsN (G : Nat → Int) : Nat → List Det
  | 0 => []
  | n + 1 => lsN G n ++ (if 0 < G n then [detN G n] else [])
theorem lsN_len (G : Nat → Int) : ∀ n, (lsN G n).length ≤ n
  | 0 => by simp [lsN]
  | n + 1 => by
    have := lsN_len G n
    rw [lsN, List.length_append]
    split <;> simp <;> omega
theorem lsN_at (G : Nat → Int) {T i k : Nat} (hi : i < 112) (hk : k < 4) : lsN G (T * 448 + i * 4 + k + 1) = lsN G (T * 448 + i * 4 + k) ++ (if 0 < G (T * 448 + i * 4 + k) then [⟨T, i, k, G (T * 448 + i * 4 + k)⟩] else []) := by
  rw [lsN]
  unfold detN
  have e1 : (T * 448 + i * 4 + k) / 448 = T := by omega
  have e2 : (T * 448 + i * 4 + k) % 448 / 4 = i := by omega
  have e3 : (T * 448 + i * 4 + k) % 4 = k := by omega
  rw [e1, e2, e3]
/-- A list of records, in memory. -/
def DRow (w : World) (b : Nat) (v : Value) (Ds : List Det) : Prop := w.ownsRow b 74 4 v Ds.length (Ds.flatMap Det.vals)
theorem DRow.below {w w' : World} {b : Nat} {v : Value} {Ds : List Det} (h : DRow w b v Ds) (hb : Below w.heap.size w w') : DRow w' b v Ds := own_kept h (Ex.of (S := fun _ => False) hb) (fun _ _ e => e)
theorem bel_grownD {w W w3 : World} {v : Value} {Ds : List Det} (h : Below w.heap.size w W) (hr : DRow W w.heap.size v Ds) (hg : W.grownBy w3 v.ownBlock) : Below w.heap.size w w3 := by
  refine h.trans ⟨hg.os, hg.tape, hg.output, hg.size, fun k hk => ?_⟩
  refine hg.block k (by have := h.size; omega) fun e => ?_
  have := (hr.lt k e.symm).1
  omega
theorem dvals_one (s : Det) : ∀ u ∈ s.vals, u.oneCell' = true := by
  intro u hu
  simp [Det.vals] at hu
  rcases hu with rfl | rfl | rfl | rfl <;> rfl
theorem DRow.da {w : World} {b c n : Nat} {a : Option Addr} {Ds : List Det} (h : DRow w b (.slice a n c) Ds) : DA w a Ds ∧ ∀ g off, a = some ⟨g, off, none⟩ → b ≤ g ∧ g < w.heap.size := by
  refine ⟨fun i d hd => ?_, fun g off e => ?_⟩
  · obtain ⟨g, c', e⟩ := own_some h (by have := (List.getElem?_eq_some_iff.1 hd).1; omega)
    cases e
    refine ⟨g, 0, rfl, fun j v hv => ?_⟩
    have hj : j < 4 := (List.getElem?_eq_some_iff.1 hv).1
    have := h.cells (g := g) rfl (i * 4 + j) v (by rw [flat_at Det.vals 4 Det.len Ds i d hd j hj]; exact hv)
    rw [Addr.add_mid] at this
    rw [show 0 + i * 4 + j = 0 + (i * 4 + j) by omega]
    exact this
  · subst e
    obtain ⟨_, h2⟩ := h
    rcases h2 with ⟨h2, _⟩ | ⟨g', cap, cur, h2, h3, h4, _⟩
    · cases h2
    · cases h2
      exact ⟨h3, (Array.getElem?_eq_some_iff.1 h4).1⟩
def LsPost (w : World) (Ds : List Det) (e : Ending) (w' : World) : Prop := ∃ a c, e = .returned (.slice a Ds.length c) ∧ DRow w' w.heap.size (.slice a Ds.length c) Ds ∧ Below w.heap.size w w'
set_option maxRecDepth 100000 in
set_option maxHeartbeats 2000000 in
/-- sensorsm.Pending.List -/
theorem list_any (w : World) (q : Nat) (G : Nat → Int) (h : PA w q G) :
    Calls Try.prog 20 #[.pointer (some ⟨q, 0, none⟩)] w (LsPost w (lsN G 1792)) := by
  have HB := hide h
  clear h
  obtain ⟨i0, hi0, hz0, hz1, hz2⟩ : ∃ i0, Try.prog.info? 74 = some i0 ∧ i0.zero = some (.agg #[.int .i64 0, .int .i64 0, .int .i64 0, .int .i64 0]) ∧ i0.size = 4 ∧ i0.bytes = 32 := ⟨_, rfl, rfl, rfl, rfl⟩
  go_enter Try.func20, Try.ntmps20
  go_wp2
  go_loopw [3, 4] (fun sv sT wr => ∃ (T : Nat) (a : Option Addr) (c : Nat), T ≤ 4 ∧ sT = .int .i64 T ∧ sv = .slice a (lsN G (T * 448)).length c ∧ DRow wr w.heap.size (.slice a (lsN G (T * 448)).length c) (lsN G (T * 448)) ∧ Below w.heap.size w wr) (fun _ sT _ => 4 - (intOf sT).toNat)
  case atStart => exact ⟨0, none, 0, by omega, rfl, rfl, World.ownsRow_nil _ _ _ _, Below.refl _ _⟩
  case round =>
    obtain ⟨T, a, c, hT, rfl, rfl, hr, hb⟩ := hrel
    have HR := hide hr
    have HE := hide hb
    clear hr hb
    by_cases hT4 : T < 4
    · have hT4i : (T : Int) < 4 := by omega
      go_wp2
      go_loopw [3, 5] (fun sv sI wr => ∃ (I : Nat) (a : Option Addr) (c : Nat), I ≤ 112 ∧ sI = .int .i64 I ∧ sv = .slice a (lsN G (T * 448 + I * 4)).length c ∧ DRow wr w.heap.size (.slice a (lsN G (T * 448 + I * 4)).length c) (lsN G (T * 448 + I * 4)) ∧ Below w.heap.size w wr) (fun _ sI _ => 112 - (intOf sI).toNat)
      case atStart => exact ⟨0, a, c, by omega, rfl, rfl, HR.out, HE.out⟩
      case round =>
        clear HR HE
        obtain ⟨I, a, c, hI, rfl, rfl, hr, hb⟩ := hrel
        have HR := hide hr
        have HE := hide hb
        clear hr hb
        by_cases hI48 : I < 112
        · have hI48i : (I : Int) < 112 := by omega
          go_wp2
          go_loopw [3, 6] (fun sv sK wr => ∃ (K : Nat) (a : Option Addr) (c : Nat), K ≤ 4 ∧ sK = .int .i64 K ∧ sv = .slice a (lsN G (T * 448 + I * 4 + K)).length c ∧ DRow wr w.heap.size (.slice a (lsN G (T * 448 + I * 4 + K)).length c) (lsN G (T * 448 + I * 4 + K)) ∧ Below w.heap.size w wr) (fun _ sK _ => 4 - (intOf sK).toNat)
          case atStart => exact ⟨0, a, c, by omega, rfl, rfl, HR.out, HE.out⟩
          case round =>
            clear HR HE
            rename_i wr
            obtain ⟨K, a, c, hK, rfl, rfl, hr, hb⟩ := hrel
            have HR := hide hr
            have HE := hide hb
            clear hr hb
            by_cases hK4 : K < 4
            · have hK4i : (K : Int) < 4 := by omega
              have HX := hide (lsN_at G (T := T) hI48 hK4)
              obtain ⟨Ds, hDs⟩ : ∃ Ds, lsN G (T * 448 + I * 4 + K) = Ds := ⟨_, rfl⟩
              have hlen : Ds.length ≤ 1792 := by have := lsN_len G (T * 448 + I * 4 + K); rw [hDs] at this; omega
              rw [hDs] at HR HX ⊢
              clear hDs
              have cg := (HB.out.below HE.out).c (T * 448 + I * 4 + K) (by omega)
              obtain ⟨g, hg⟩ : ∃ g, G (T * 448 + I * 4 + K) = g := ⟨_, rfl⟩
              rw [hg] at cg HX
              clear hg
              by_cases hg0 : 0 < g
              · have HX' := hide (show lsN G (T * 448 + I * 4 + (K + 1)) = Ds ++ [⟨T, I, K, g⟩] by have := HX.out; rw [show T * 448 + I * 4 + (K + 1) = T * 448 + I * 4 + K + 1 by omega, this, if_pos hg0])
                go_upto_region 12 with fail
                have HR3 := hide (HR.out.below (be1 wr (.cells #[.int .i64 (T : Int), .int .i64 (I : Int), .int .i64 (K : Int), .int .i64 g] 74)))
                have HE3 := hide (lec HE.out (be1 wr (.cells #[.int .i64 (T : Int), .int .i64 (I : Int), .int .i64 (K : Int), .int .i64 g] 74)))
                have HNC := hide (show ∀ (j : Nat) (u : Value), (Det.vals ⟨T, I, K, g⟩)[j]? = some u → (wr.alloc (.cells #[.int .i64 (T : Int), .int .i64 (I : Int), .int .i64 (K : Int), .int .i64 g] 74)).cell? ((⟨wr.heap.size, 0, none⟩ : Addr).add j) = some u from fun j u hj => new_cells _ (Det.vals ⟨T, I, K, g⟩) 74 j u hj)
                have HV := hide (dvals_one ⟨T, I, K, g⟩)
                have HSZ := hide (show w.heap.size ≤ (wr.alloc (.cells #[.int .i64 (T : Int), .int .i64 (I : Int), .int .i64 (K : Int), .int .i64 g] 74)).heap.size from HE3.out.size)
                have HMX := hide (show Ds.length + 1 ≤ maxLen ∧ (Ds.length + 1) * 32 ≤ 140737488355328 by unfold maxLen; omega)
                go_wp2_with (at_builtin; go_loud (refine wpList_append_own _ rfl (.tmp 30) (.tmp 45) 39 rfl w.heap.size 74 i0 _ 4 32 Try.underlying39 hi0 hz0 hz1 hz2 rfl (by decide) (.slice a Ds.length c) Ds.length (Ds.flatMap Det.vals) rfl HR3.out _ 1 1 (Det.vals ⟨T, I, K, g⟩) rfl rfl HNC.out HV.out HMX.out.1 HMX.out.2 HSZ.out ?_; intro v' w3 hown hgrow hnil; have HE4 := hide (bel_grownD HE3.out HR3.out hgrow); have HR4 := hide hown; obtain ⟨a4, c4, rfl⟩ := own_form hown; clear hown hgrow hnil))
                go_roundw
                case rel =>
                  refine ⟨K + 1, a4, c4, by omega, by simp, ?_, ?_, HE4.out⟩
                  · rw [HX'.out]; simp
                  · rw [HX'.out]
                    have := HR4.out
                    show World.ownsRow _ _ _ _ _ _ _
                    simpa using this
                case measure => simp [intOf]; omega
              · have HX' := hide (show lsN G (T * 448 + I * 4 + (K + 1)) = Ds by have := HX.out; rw [show T * 448 + I * 4 + (K + 1) = T * 448 + I * 4 + K + 1 by omega, this, if_neg hg0]; simp)
                go_wp2
                go_roundw
                case rel =>
                  refine ⟨K + 1, a, c, by omega, by simp, ?_, ?_, HE.out⟩
                  · rw [HX'.out]
                  · rw [HX'.out]; exact HR.out
                case measure => simp [intOf]; omega
            · obtain rfl : K = 4 := by omega
              go_wp2
              go_roundw
              case rel =>
                refine ⟨I + 1, a, c, by omega, by simp, ?_, ?_, HE.out⟩
                · rw [show T * 448 + (I + 1) * 4 = T * 448 + I * 4 + 4 by omega]
                · rw [show T * 448 + (I + 1) * 4 = T * 448 + I * 4 + 4 by omega]; exact HR.out
              case measure => simp [intOf]; omega
        · obtain rfl : I = 112 := by omega
          go_wp2
          go_roundw
          case rel =>
            refine ⟨T + 1, a, c, by omega, by simp, ?_, ?_, HE.out⟩
            · rw [show (T + 1) * 448 = T * 448 + 112 * 4 by omega]
            · rw [show (T + 1) * 448 = T * 448 + 112 * 4 by omega]; exact HR.out
          case measure => simp [intOf]; omega
    · obtain rfl : T = 4 := by omega
      go_wp2
      go_ret
      exact ⟨_, _, rfl, HR.out, HE.out⟩
end Go.Proofs.Qxb6500777a
