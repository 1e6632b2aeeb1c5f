import Derived.Test.Qxb6500774aLx4
namespace Go.Proofs.Qxb6500774a
open Go.RowKit

def decP : List Int → Int → Int
  | [], n => n
  | c :: cs, n => if dgP c = false then -1 else if (9223372036854775807 - (c - 48)).tdiv 10 < n then -1 else decP cs (n * 10 + (c - 48))
def decimalP (s : List Int) : Int := if s = [] then -1 else decP s 0
set_option maxRecDepth 100000 in
set_option maxHeartbeats 4000000 in
/-- decimal -/
theorem decimal_any (w : World) (a : Option Addr) (cp : Nat) (s : List Int) (hs : SrcAt w a s) (hl : s.length ≤ 1099511627776) : Calls Try.prog 87 #[.slice a s.length cp] w fun e w' => e = .returned (.int .i64 (decimalP s)) ∧ w' = w := by
  have HS := hide hs
  clear hs
  by_cases h0 : s = []
  · subst h0
    have e : decimalP [] = -1 := rfl
    rw [e]
    clear e
    go_enter Try.func87, Try.ntmps87
    go_wp2
    go_ret
    exact ⟨rfl, rfl⟩
  · have HD : Hid (decimalP s = decP s 0) := if_neg h0
    have hp : 0 < s.length := List.length_pos_iff.2 h0
    have d0 : (((s.length : Nat) : Int) == 0) = false := by simp [h0]
    clear h0
    go_enter Try.func87, Try.ntmps87
    go_wp2
    go_loopw [3, 12] (fun s3 s12 wr => ∃ (k : Nat) (n : Int), k ≤ s.length ∧ s12 = .int .i64 k ∧ s3 = .int .i64 n ∧ Hid (decimalP s = decP (s.drop k) n) ∧ (0 ≤ n ∧ n ≤ 9223372036854775807) ∧ wr = w) (fun _ s12 _ => s.length - (intOf s12).toNat)
    case atStart => exact ⟨0, 0, Nat.zero_le _, rfl, rfl, HD, ⟨by omega, by omega⟩, rfl⟩
    case round =>
      clear HD
      obtain ⟨k, n, hk, rfl, rfl, HE, hn, rfl⟩ := hrel
      by_cases hlt : k < s.length
      · have d1 : decide ((k : Int) < (s.length : Int)) = true := by simp; omega
        have hki : (k : Int) < (s.length : Int) := by omega
        obtain ⟨c, hc⟩ : ∃ c, s[k]? = some c := ⟨_, List.getElem?_eq_getElem hlt⟩
        have hdr : s.drop k = c :: s.drop (k + 1) := by
          rw [List.drop_eq_getElem_cons hlt]
          rw [List.getElem?_eq_getElem hlt] at hc
          injection hc with hc
          rw [hc]
        rw [hdr, decP] at HE
        obtain ⟨g, off, ha, cx⟩ := HS.out k c hc
        subst ha
        clear hdr hc
        cases hd : dgP c
        · rw [if_pos hd] at HE
          have HP := hide hd
          clear hd
          go_wp2_with (go_at_call 86; refine (isDigit_any _ c).mono ?_; rintro e wq ⟨rfl, rfl⟩; rw [HP.out]; simp only [])
          go_ret
          exact ⟨by rw [HE.out]; rfl, rfl⟩
        · rw [if_neg (by simp [hd])] at HE
          have hcb : 48 ≤ c ∧ c ≤ 57 := by simpa [dgP] using hd
          have HP := hide hd
          clear hd
          obtain ⟨dd, hdd⟩ : ∃ dd, c - 48 = dd := ⟨_, rfl⟩
          rw [hdd] at HE
          have hb : 0 ≤ dd ∧ dd ≤ 9 := by omega
          have hw1 : IntKind.u8.wrap (c - 48) = dd := by rw [IntKind.wrap_u8]; omega
          have hw2 : IntKind.i64.wrap dd = dd := by rw [IntKind.wrap_i64]; omega
          have hw3 : IntKind.i64.wrap (9223372036854775807 - dd) = 9223372036854775807 - dd := by rw [IntKind.wrap_i64]; omega
          obtain ⟨q, hq⟩ : ∃ q, (9223372036854775807 - dd).tdiv 10 = q := ⟨_, rfl⟩
          have hqb : q = (9223372036854775807 - dd) / 10 := by rw [← hq, Int.tdiv_eq_ediv_of_nonneg (by omega)]
          have hw4 : IntKind.i64.wrap q = q := by rw [IntKind.wrap_i64]; omega
          rw [hq] at HE
          by_cases hg : q < n
          · have d2 : decide (q < n) = true := by simpa using hg
            rw [if_pos hg] at HE
            go_wp2_with (go_at_call 86; refine (isDigit_any _ c).mono ?_; rintro e wq ⟨rfl, rfl⟩; rw [HP.out]; simp only [])
            go_ret
            exact ⟨by rw [HE.out]; rfl, rfl⟩
          · have d2 : decide (q < n) = false := by simpa using hg
            rw [if_neg hg] at HE
            have hw5 : IntKind.i64.wrap (n * 10) = n * 10 := by rw [IntKind.wrap_i64]; omega
            have hw6 : IntKind.i64.wrap (n * 10 + dd) = n * 10 + dd := by rw [IntKind.wrap_i64]; omega
            go_wp2_with (go_at_call 86; refine (isDigit_any _ c).mono ?_; rintro e wq ⟨rfl, rfl⟩; rw [HP.out]; simp only [])
            go_roundw
            case rel => exact ⟨k + 1, n * 10 + dd, by omega, by go_num, rfl, HE, ⟨by omega, by omega⟩, trivial⟩
            case measure => simp [intOf]; omega
      · obtain rfl : k = s.length := by omega
        have d1 : decide ((s.length : Int) < (s.length : Int)) = false := by simp
        rw [List.drop_length, decP] at HE
        go_wp2
        go_ret
        exact ⟨by rw [HE.out]; rfl, rfl⟩
end Go.Proofs.Qxb6500774a
