import Derived.Test.Qxb6500774aPs1
namespace Go.Proofs.Qxb6500774a
open Go.RowKit
variable {R : Nat → Option Value}

/-! ### The bytes of the law's text: capitals, `_`, 0, 1, blank, `:=;()[]-` -/
def okb (c : Int) : Prop := (c = 32 ∨ c = 40 ∨ c = 41 ∨ c = 45 ∨ c = 48 ∨ c = 49 ∨ c = 58 ∨ c = 59 ∨ c = 61 ∨ (65 ≤ c ∧ c ≤ 91) ∨ c = 93 ∨ c = 95)
def Sane (s : List Int) : Prop := ∀ (i : Nat) c, s[i]? = some c → okb c
def blanks : List Int → Nat
  | [] => 0
  | c :: r => if c = 32 then blanks r + 1 else 0
def wlen : List Int → Nat
  | [] => 0
  | c :: r => if ltP c || dgP c then wlen r + 1 else 0
theorem drop_cons {s : List Int} {k : Nat} {c : Int} (h : s[k]? = some c) : s.drop k = c :: s.drop (k + 1) := by
  obtain ⟨hlt, e⟩ := List.getElem?_eq_some_iff.1 h
  rw [List.drop_eq_getElem_cons hlt, e]
theorem byP_ok {s : List Int} (h : Sane s) (i : Nat) : byP s i = 0 ∨ okb (byP s i) := by
  unfold byP
  by_cases hi : (i : Int) < s.length
  · rw [if_pos hi]
    obtain ⟨c, hc⟩ : ∃ c, s[i]? = some c := ⟨_, List.getElem?_eq_getElem (by omega)⟩
    right
    simpa [hc] using h i c hc
  · left
    rw [if_neg hi]
theorem ne_of_ok {c : Int} (h : c = 0 ∨ okb c) : (c == 42) = false ∧ (c == 47) = false ∧ (c == 9) = false ∧ (c == 13) = false ∧ (c == 10) = false ∧ (c == 35) = false := by
  unfold okb at h
  simp only [beq_eq_false_iff_ne, ne_eq]
  omega
theorem stp_one {s : List Int} {o : Nat} {l : Int} {b : Nat} {c : Int} (hc : s[o]? = some c) (h : (c == 10) = false) : stp s 1 o l b = (o + 1, l, b) := by
  rw [stp, hc, if_neg (by simpa using h), stp]
def offOf (w : World) (p : Nat) : Nat := match w.cell? ⟨p, 1, none⟩ with
  | some v => (intOf v).toNat
  | none => 0
theorem Lx.offOf {w : World} {p : Nat} {a : Option Addr} {cp : Nat} {s : List Int} {o : Nat} {l : Int} {b : Nat} (h : Lx R w p a cp s o l b) : offOf w p = o := by
  unfold Go.Proofs.Qxb6500774a.offOf
  rw [h.c1]
  simp [intOf]
set_option maxRecDepth 100000 in
set_option maxHeartbeats 4000000 in
/-- lexer.skip over blanks -/
theorem skip_any (w : World) (p : Nat) (a : Option Addr) (cp : Nat) (s : List Int) (o : Nat) (h : Lx R w p a cp s o 1 0) (hs : Sane s) (ho : o ≤ s.length) (hl : s.length ≤ 1099511627776) :
    Calls Try.prog 85 #[.pointer (some ⟨p, 0, none⟩)] w fun e w' => e = .returned (.bool true) ∧ Ex (fun k => k = p) w w' ∧ Lx R w' p a cp s (o + blanks (s.drop o)) 1 0 := by
  have HX := hide h
  have HS := hide hs
  clear h hs
  go_enter Try.func85, Try.ntmps85
  go_wp2
  go_loopw [3] (fun _ wr => ∃ (k : Nat), Hid (k ≤ s.length ∧ k + blanks (s.drop k) = o + blanks (s.drop o)) ∧ Hid (Ex (fun k => k = p) w wr) ∧ Hid (Lx R wr p a cp s k 1 0)) (fun _ wr => s.length - offOf wr p)
  case atStart => exact ⟨o, ⟨ho, rfl⟩, Ex.refl _ _, HX.out⟩
  case round =>
    clear HX ho
    obtain ⟨k, HK, HE, HX⟩ := hrel
    obtain ⟨hk, hkb⟩ := HK.out
    have HOF := hide HX.out.offOf
    have c0 := HX.out.c0
    have c1 := HX.out.c1
    by_cases hlt : k < s.length
    · have d1 : decide ((k : Int) < (s.length : Int)) = true := by simp; omega
      have hki : (k : Int) < (s.length : Int) := by omega
      go_wp2_with fail
      go_quiet (fail)
      have HX2 := hide (HX.out.below (below_dn wr nq wr.heap.size))
      have HE2 : Hid (Ex (fun k => k = p) w (wr.drewN nq)) := HE.out.drewN nq
      generalize wr.drewN nq = w2 at *
      clear HX HE c0 c1 d1
      have c0 := HX2.out.c0
      have c1 := HX2.out.c1
      obtain ⟨c, hc⟩ : ∃ c, s[k]? = some c := ⟨_, List.getElem?_eq_getElem hlt⟩
      obtain ⟨g, off, ha, cx⟩ := HX2.out.src k c hc
      subst ha
      have HC := hide hc
      have hok := ne_of_ok (.inr (HS.out k c hc))
      have hokd := ne_of_ok (byP_ok HS.out (k + 1))
      have hw1 : IntKind.i64.wrap ((k : Int) + 1) = ((k + 1 : Nat) : Int) := by rw [IntKind.wrap_i64]; omega
      obtain ⟨d, hd⟩ : ∃ d, byP s ((k + 1 : Nat) : Int) = d := ⟨_, rfl⟩
      rw [hd] at hokd
      have HB : ∀ m, Hid (Calls Try.prog 91 #[.pointer (some ⟨p, 0, none⟩), .int .i64 ((k + 1 : Nat) : Int)] (w2.drewN m) fun e w' => e = .returned (.int .u8 d) ∧ w' = w2.drewN m) := fun m => by
        have hx := HX2.out.below (below_dn w2 m w2.heap.size)
        have := byteAt_any _ _ _ _ s (k + 1) hx.src hx.c0
        rw [hd] at this
        exact this
      clear hd hc
      go_wp2_with fail
      go_quiet (first | (go_at_call 91; refine Calls.quiet_of_same (HB _).out))
      have HX3 := hide (HX2.out.below (below_dn w2 nq w2.heap.size))
      have HE3 : Hid (Ex (fun k => k = p) w (w2.drewN nq)) := HE2.out.drewN nq
      generalize w2.drewN nq = w3 at *
      clear HX2 HE2 c0 c1 cx HB
      obtain ⟨n42, n47, n9, n13, n10, n35⟩ := hok
      obtain ⟨m42, m47, m9, m13, m10, m35⟩ := hokd
      by_cases h32 : c = 32
      · have d32 : (c == 32) = true := by simpa using h32
        have HN : Hid (stp s 1 k 1 0 = (k + 1, 1, 0)) := stp_one HC.out n10
        have hb2 : k + 1 + blanks (s.drop (k + 1)) = o + blanks (s.drop o) := by
          rw [← hkb, drop_cons HC.out, blanks, if_pos h32]; omega
        have HK2 : Hid (k + 1 ≤ s.length ∧ k + 1 + blanks (s.drop (k + 1)) = o + blanks (s.drop o)) := ⟨by omega, hb2⟩
        clear h32 hkb hb2 HK
        go_wp2_with (go_at_call 103; refine (step_any _ p _ cp s k 1 0 1 HX3.out (by omega) (by omega) hl).mono ?_; rintro e wq ⟨rfl, hex, o', l', b', hst, hlx⟩; rw [HN.out] at hst; simp only [Prod.mk.injEq] at hst; obtain ⟨rfl, rfl, rfl⟩ := hst; have HX4 := hide hlx; have HE4 := hide (HE3.out.trans hex); clear hlx hex HX3 HE3; simp only [])
        go_roundw
        case rel => exact ⟨k + 1, HK2, HE4, HX4⟩
        case measure => rw [HX4.out.offOf, HOF.out]; omega
      · have d32 : (c == 32) = false := by simpa using h32
        have HBL : Hid (blanks (s.drop o) + o = k) := by
          have : blanks (s.drop k) = 0 := by rw [drop_cons HC.out, blanks, if_neg h32]
          show _ = _
          omega
        clear h32 hkb HK
        have HF : Hid (Lx R w3 p (some ⟨g, off, none⟩) cp s (o + blanks (s.drop o)) 1 0) := by
          rw [show o + blanks (s.drop o) = k by rw [← HBL.out]; omega]
          exact HX3.out
        go_wp2
        all_goals go_ret
        all_goals exact ⟨rfl, HE3.out, HF.out⟩
    · have d1 : decide ((k : Int) < (s.length : Int)) = false := by simp; omega
      go_wp2_with fail
      go_quiet (fail)
      have HX2 := hide (HX.out.below (below_dn wr nq wr.heap.size))
      have HE2 : Hid (Ex (fun k => k = p) w (wr.drewN nq)) := HE.out.drewN nq
      have HBL : Hid (blanks (s.drop o) + o = k) := by
        have : blanks (s.drop k) = 0 := by rw [List.drop_eq_nil_of_le (by omega), blanks]
        show _ = _
        omega
      generalize wr.drewN nq = w2 at *
      go_wp2
      go_ret
      refine ⟨rfl, HE2.out, ?_⟩
      rw [show o + blanks (s.drop o) = k by rw [← HBL.out]; omega]
      exact HX2.out
end Go.Proofs.Qxb6500774a
