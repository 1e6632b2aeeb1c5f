import Derived.Test.Qxb6500778aE2
namespace Go.Proofs.Qxb6500778a
open Go.RowKit

def dgF : List Int → Int → Option Int
  | [], v => some v
  | c :: r, v => if dgP c = false then none else dgF r (if 1000000 < v * 10 + (c - 48) then 1000000 else v * 10 + (c - 48))
def dgV (s : List Int) : Int := (dgF s 0).getD 0
def dgB (s : List Int) : Bool := (dgF s 0).isSome && decide (0 < s.length)
set_option maxRecDepth 100000 in
set_option maxHeartbeats 4000000 in
/-- digits -/
theorem digits_any (w : World) (a : Option Addr) (cp : Nat) (s : List Int) (hs : SrcAt w a s) (hl : s.length ≤ 9223372036854775807) : Calls Try.prog 74 #[.slice a s.length cp] w fun e w' => e = .returned (.tuple #[.int .i64 (dgV s), .bool (dgB s)]) ∧ w = w' := by
  have HS := hide hs
  clear hs
  go_enter Try.func74, Try.ntmps74
  go_wp2
  go_loopw [4, 5] (fun s4 s5 wr => ∃ (k : Nat) (v : Int), k ≤ s.length ∧ s5 = .int .i64 k ∧ s4 = .int .i64 v ∧ Hid (dgF s 0 = dgF (s.drop k) v) ∧ (0 ≤ v ∧ v ≤ 1000000) ∧ w = wr) (fun _ s5 _ => s.length - (intOf s5).toNat)
  case atStart => exact ⟨0, 0, Nat.zero_le _, rfl, rfl, rfl, ⟨by omega, by omega⟩, rfl⟩
  case round =>
    obtain ⟨k, v, hk, rfl, rfl, HE, hv, rfl⟩ := hrel
    by_cases hlt : k < s.length
    · have d1 : decide ((k : Int) < (s.length : Int)) = true := decide_eq_true (by omega)
      have d1n : decide (k < s.length) = true := decide_eq_true hlt
      have hki : (k : Int) < (s.length : Int) := by omega
      obtain ⟨c, hc⟩ : ∃ c, s[k]? = some c := ⟨_, List.getElem?_eq_getElem hlt⟩
      rw [drop_cons hc, dgF] at HE
      obtain ⟨g, off, ha, cx⟩ := HS.out k c hc
      subst ha
      clear hc
      obtain ⟨bd, hbd⟩ : ∃ b, dgP c = b := ⟨_, rfl⟩
      have HP := hide (isDigit_any w c)
      rw [hbd] at HP
      cases bd
      · rw [if_pos hbd] at HE
        have HV : Hid (dgV s = 0 ∧ dgB s = false) := by
          constructor
          · unfold dgV; rw [HE.out]; rfl
          · unfold dgB; rw [HE.out]; rfl
        clear hbd HE
        go_wp2_with (go_at_call 84; refine (HP.out).mono ?_; rintro e wq ⟨rfl, rfl⟩; simp only [])
        exact bodyPost_ret (v := .tuple #[.int .i64 0, .bool false]) (by simp [results, Try.results74, go_sem]) rfl ⟨by rw [HV.out.1, HV.out.2], rfl⟩
      · rw [if_neg (by rw [hbd]; decide)] at HE
        have hcb : 48 ≤ c ∧ c ≤ 57 := by simpa [dgP] using hbd
        clear hbd
        obtain ⟨dd, hdd⟩ : ∃ dd, c - 48 = dd := ⟨_, rfl⟩
        rw [hdd] at HE
        have hb : 0 ≤ dd ∧ dd ≤ 9 := by omega
        have hw1 : IntKind.u8.wrap (c - 48) = dd := by rw [IntKind.wrap_u8]; omega
        have hw2 : IntKind.i64.wrap dd = dd := by rw [IntKind.wrap_i64]; omega
        have hw5 : IntKind.i64.wrap (v * 10) = v * 10 := by rw [IntKind.wrap_i64]; omega
        have hw6 : IntKind.i64.wrap (v * 10 + dd) = v * 10 + dd := by rw [IntKind.wrap_i64]; omega
        by_cases hg : 1000000 < v * 10 + dd
        · have d2 : decide (1000000 < v * 10 + dd) = true := decide_eq_true hg
          rw [if_pos hg] at HE
          go_wp2_with (go_at_call 84; refine (HP.out).mono ?_; rintro e wq ⟨rfl, rfl⟩; simp only [])
          go_roundw
          case rel => exact ⟨k + 1, 1000000, by omega, by go_num, rfl, HE, ⟨by omega, by omega⟩, trivial⟩
          case measure => simp [intOf]; omega
        · have d2 : decide (1000000 < v * 10 + dd) = false := decide_eq_false hg
          rw [if_neg hg] at HE
          go_wp2_with (go_at_call 84; refine (HP.out).mono ?_; rintro e wq ⟨rfl, rfl⟩; simp only [])
          go_roundw
          case rel => exact ⟨k + 1, v * 10 + dd, by omega, by go_num, rfl, HE, ⟨by omega, by omega⟩, trivial⟩
          case measure => simp [intOf]; omega
    · obtain rfl : k = s.length := by omega
      have d1 : decide ((s.length : Int) < (s.length : Int)) = false := decide_eq_false (by omega)
      rw [List.drop_length, dgF] at HE
      have HV : Hid (dgV s = v ∧ dgB s = decide (0 < s.length)) := by
        constructor
        · unfold dgV; rw [HE.out]; rfl
        · unfold dgB; rw [HE.out]; rfl
      obtain ⟨bl, hbl⟩ : ∃ b, decide (0 < s.length) = b := ⟨_, rfl⟩
      rw [hbl] at HV
      go_wp2
      exact bodyPost_ret (v := .tuple #[.int .i64 v, .bool bl]) (by simp [results, Try.results74, go_sem]) rfl ⟨by rw [HV.out.1, HV.out.2], rfl⟩
end Go.Proofs.Qxb6500778a
