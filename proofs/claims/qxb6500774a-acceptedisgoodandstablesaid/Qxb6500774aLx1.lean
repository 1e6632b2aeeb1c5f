import Derived.Test.Qxb6500774aProg
import Derived.Handy
import Derived.RowKit
import Derived.Below
namespace Go.Proofs.Qxb6500774a
open Go.RowKit

/-! ### Bytes -/
def dgP (c : Int) : Bool := decide (48 ≤ c ∧ c ≤ 57)
def ltP (c : Int) : Bool := decide ((65 ≤ c ∧ c ≤ 90) ∨ (97 ≤ c ∧ c ≤ 122) ∨ c = 95)
set_option maxRecDepth 100000 in
theorem isDigit_any (w : World) (c : Int) : Calls Try.prog 86 #[.int .u8 c] w fun e w' => e = .returned (.bool (dgP c)) ∧ w' = w := by
  unfold dgP
  by_cases h1 : 48 ≤ c
  · have d1 : decide ((48 : Int) ≤ c) = true := by simpa using h1
    by_cases h2 : c ≤ 57
    · have d2 : decide (c ≤ (57 : Int)) = true := by simpa using h2
      have e : decide (48 ≤ c ∧ c ≤ 57) = true := by simp [h1, h2]
      rw [e]
      clear e h1 h2
      go_enter Try.func86, Try.ntmps86
      go_wp2
      go_ret
      exact ⟨rfl, rfl⟩
    · have d2 : decide (c ≤ (57 : Int)) = false := by simpa using h2
      have e : decide (48 ≤ c ∧ c ≤ 57) = false := by simp [h2]
      rw [e]
      clear e h1 h2
      go_enter Try.func86, Try.ntmps86
      go_wp2
      go_ret
      exact ⟨rfl, rfl⟩
  · have d1 : decide ((48 : Int) ≤ c) = false := by simpa using h1
    have e : decide (48 ≤ c ∧ c ≤ 57) = false := by simp [h1]
    rw [e]
    clear e h1
    go_enter Try.func86, Try.ntmps86
    go_wp2
    go_ret
    exact ⟨rfl, rfl⟩
/-- The source's bytes. -/
def SrcAt (w : World) (a : Option Addr) (s : List Int) : Prop := ∀ i c, s[i]? = some c → ∃ b off, a = some ⟨b, off, none⟩ ∧ w.cell? ⟨b, off + i, none⟩ = some (.int .u8 c)
def byP (s : List Int) (i : Int) : Int := if i < s.length then s[i.toNat]?.getD 0 else 0
set_option maxRecDepth 100000 in
theorem byteAt_any (w : World) (p : Nat) (a : Option Addr) (cp : Nat) (s : List Int) (i : Nat) (hs : SrcAt w a s) (hc : w.cell? ⟨p, 0, none⟩ = some (.slice a s.length cp)) : Calls Try.prog 91 #[.pointer (some ⟨p, 0, none⟩), .int .i64 i] w fun e w' => e = .returned (.int .u8 (byP s i)) ∧ w' = w := by
  unfold byP
  by_cases h : i < s.length
  · have d1 : decide ((i : Int) < (s.length : Int)) = true := by simp; omega
    obtain ⟨c, hx⟩ : ∃ c, s[i]? = some c := ⟨_, List.getElem?_eq_getElem h⟩
    obtain ⟨b, off, rfl, cx⟩ := hs i c hx
    have hi : (i : Int) < (s.length : Int) := by omega
    have e : (if (i : Int) < s.length then s[(i : Int).toNat]?.getD 0 else 0) = c := by rw [if_pos hi]; simp [hx]
    rw [e]
    clear e hx hs
    go_enter Try.func91, Try.ntmps91
    go_wp2
    go_ret
    exact ⟨rfl, rfl⟩
  · have d1 : decide ((i : Int) < (s.length : Int)) = false := by simp; omega
    have e : (if (i : Int) < s.length then s[(i : Int).toNat]?.getD 0 else 0) = 0 := by rw [if_neg (by omega)]
    rw [e]
    clear e hs
    go_enter Try.func91, Try.ntmps91
    go_wp2
    go_ret
    exact ⟨rfl, rfl⟩
end Go.Proofs.Qxb6500774a
