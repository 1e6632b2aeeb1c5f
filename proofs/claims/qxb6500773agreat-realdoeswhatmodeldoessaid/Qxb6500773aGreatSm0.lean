import Derived.Test.Qxb6500773aGreatOp1
import Derived.Deep.CutBlock
namespace Go.Proofs.Qxb6500773aGreat
set_option maxRecDepth 100000
open Go.RowKit

/-- the sizes of the first steps, added -/
def sumP (f : Nat → OpV) : Nat → Nat
  | 0 => 0
  | i + 1 => sumP f i + (f i).ln + (f i).tn
set_option linter.unusedSimpArgs false in
set_option maxRecDepth 100000 in
set_option maxHeartbeats 4000000 in
/-- cnflaw.zzSmall1 -/
theorem smallS_any (w : World) (a : Option Addr) (len cap : Nat) (f : Nat → OpV) (hops : OpsAt w a len f) (hn : len ≤ 9223372036854775807) :
    Calls Tryz.prog 6 #[.slice a len cap] w fun e w' => ∃ b, e = .returned (.bool b) ∧ w' = w ∧ (b = true → len + sumP f len ≤ 65536) := by
  have HO := hide hops
  clear hops
  by_cases h0 : len ≤ 65536
  · have hb0 : decide ((len : Int) > 65536) = false := by simp; omega
    have hb0' : decide (65536 < (len : Int)) = false := by simp; omega
    have hb0n : decide (65536 < len) = false := by simp; omega
    go_enter Tryz.func6, Tryz.ntmps6
    go_wp2
    go_loopw [3, 4] (fun s3 s4 wx => wx = w ∧ ∃ (i k : Nat), s3 = .int .i64 k ∧ s4 = .int .i64 i ∧ i ≤ len ∧ k ≤ 65536 ∧ Hid (k = len + sumP f i)) (fun _ s4 _ => len - (intOf s4).toNat)
    case atStart => exact ⟨rfl, 0, len, rfl, rfl, Nat.zero_le _, h0, hide rfl⟩
    case round =>
      obtain ⟨rfl, i, k, rfl, rfl, hi, hk, HJ⟩ := hrel
      by_cases hlt : i < len
      · obtain ⟨b, off, ea, hop⟩ := HO.out i hlt
        cases ea
        have c2 := hop.c2
        have c3 := hop.c3
        have hll := hop.ll
        have htl := hop.tl
        have HIN : Hid (k + (f i).ln + (f i).tn = len + sumP f (i + 1)) := by show _ = _; rw [HJ.out, sumP]; omega
        clear hop HJ
        generalize (f i).ln = l at *
        generalize (f i).tn = t at *
        have h1 : decide ((i : Int) < (len : Int)) = true := by simp; omega
        have h1n : decide (i < len) = true := by simp; omega
        have h2 : decide ((i : Int) < 0) = false := by simp
        have h3 : (i : Int) < (len : Int) := by omega
        have h4 : IntKind.i64.wrap ((i : Int) + 1) = (i : Int) + 1 := by rw [IntKind.wrap_i64]; omega
        have h5 : IntKind.i64.wrap ((k : Int) + (l : Int)) = ((k + l : Nat) : Int) := by rw [IntKind.wrap_i64]; omega
        have h6 : IntKind.i64.wrap (((k + l : Nat) : Int) + (t : Int)) = ((k + l + t : Nat) : Int) := by rw [IntKind.wrap_i64]; omega
        by_cases hg1 : k + l ≤ 65536
        · have hd1 : decide (65536 < ((k + l : Nat) : Int)) = false := by simp; omega
          have hd1n : decide (65536 < k + l) = false := by simp; omega
          by_cases hg2 : k + l + t ≤ 65536
          · have hd2 : decide (65536 < ((k + l + t : Nat) : Int)) = false := by simp; omega
            have hd2n : decide (65536 < k + l + t) = false := by simp; omega
            have HIN2 := HIN
            obtain ⟨k2, hk2⟩ : ∃ k2, k + l = k2 := ⟨_, rfl⟩
            obtain ⟨k3, hk3⟩ : ∃ k3, k2 + t = k3 := ⟨_, rfl⟩
            rw [hk2] at h5 h6 hd1 hd1n hd2 hd2n
            rw [hk2, hk3] at HIN2
            rw [hk3] at h6 hd2 hd2n
            have hk4 : k3 ≤ 65536 := by omega
            clear hk2 hk3 HIN
            go_wp2
            go_roundw
            case rel => exact ⟨trivial, i + 1, k3, rfl, by simp, by omega, hk4, HIN2⟩
            case measure => simp [intOf]; omega
          · have hd2 : decide (65536 < ((k + l + t : Nat) : Int)) = true := by simp; omega
            have hd2n : decide (65536 < k + l + t) = true := by simp; omega
            obtain ⟨k2, hk2⟩ : ∃ k2, k + l = k2 := ⟨_, rfl⟩
            obtain ⟨k3, hk3⟩ : ∃ k3, k2 + t = k3 := ⟨_, rfl⟩
            rw [hk2] at h5 h6 hd1 hd1n hd2 hd2n
            rw [hk3] at h6 hd2 hd2n
            clear hk2 hk3
            go_wp2
            go_ret
            exact ⟨_, rfl, rfl, fun z => by cases z⟩
        · have hd1 : decide (65536 < ((k + l : Nat) : Int)) = true := by simp; omega
          have hd1n : decide (65536 < k + l) = true := by simp; omega
          obtain ⟨k2, hk2⟩ : ∃ k2, k + l = k2 := ⟨_, rfl⟩
          rw [hk2] at h5 hd1 hd1n
          clear hk2 h6
          go_wp2
          go_ret
          exact ⟨_, rfl, rfl, fun z => by cases z⟩
      · have h1 : decide ((i : Int) < (len : Int)) = false := by simp; omega
        have h1n : decide (i < len) = false := by simp; omega
        go_wp2
        go_ret
        exact ⟨_, rfl, rfl, fun _ => by have := HJ.out; rw [show len = i by omega] at this ⊢; omega⟩
  · have hb0 : decide ((len : Int) > 65536) = true := by simp; omega
    have hb0' : decide (65536 < (len : Int)) = true := by simp; omega
    have hb0n : decide (65536 < len) = true := by simp; omega
    go_enter Tryz.func6, Tryz.ntmps6
    go_wp2
    go_ret
    exact ⟨_, rfl, rfl, fun z => by cases z⟩
end Go.Proofs.Qxb6500773aGreat
