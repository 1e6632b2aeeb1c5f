import Derived.Test.Qxb6500778aE1
namespace Go.Proofs.Qxb6500778a
open Go.RowKit

/-- How many bytes skip passes over (within a comment, or not). -/
def skS : Bool → List Int → Nat
  | _, [] => 0
  | true, c :: r => if c = 10 then skS false r + 1 else skS true r + 1
  | false, c :: r => if c = 35 then skS true r + 1 else if spP c = true then skS false r + 1 else 0
theorem skS_com {c : Int} (r : List Int) (h : c = 35) : skS false (c :: r) = skS true (c :: r) := by
  rw [skS, skS, if_pos h, if_neg (by omega)]
theorem skS_nl {c : Int} (r : List Int) (h : c = 10) : skS true (c :: r) = skS false (c :: r) := by
  rw [skS, skS, if_pos h, if_neg (by omega), if_pos (by subst h; decide)]
set_option maxRecDepth 100000 in
set_option maxHeartbeats 4000000 in
/-- lexer.skip -/
theorem skip_any {R : Nat → Option Value} (w : World) (p : Nat) (a : Option Addr) (cp : Nat) (s : List Int) (o : Nat) (h : LX R w p a cp s o) (ho : o ≤ s.length) (hl : s.length ≤ 9223372036854775807) :
    Calls Try.prog 72 #[.pointer (some ⟨p, 0, none⟩)] w fun e w' => e = .returned (.tuple #[]) ∧ Ex (fun k => k = p) w w' ∧ LX R w' p a cp s (o + skS false (s.drop o)) := by
  have HX := hide h
  clear h
  go_enter Try.func72, Try.ntmps72
  go_wp2
  go_loopw [2] (fun _ wr => ∃ (k : Nat), Hid (k ≤ s.length ∧ k + skS false (s.drop k) = o + skS false (s.drop o)) ∧ Hid (Ex (fun k => k = p) w wr) ∧ Hid (LX R wr p a cp s k)) (fun _ wr => s.length - offOf wr p)
  case atStart => exact ⟨o, ⟨ho, rfl⟩, Ex.refl _ _, HX.out⟩
  case round =>
    clear HX ho
    obtain ⟨k, HK, HE, HX⟩ := hrel
    obtain ⟨hk, hkb⟩ := HK.out
    have HOF := hide HX.out.offOf
    have c0 := HX.out.c0
    have c1 := HX.out.c1
    by_cases hlt : k < s.length
    · have d1 : decide ((k : Int) < (s.length : Int)) = true := decide_eq_true (by omega)
      have hki : (k : Int) < (s.length : Int) := by omega
      go_wp2_with fail
      go_quiet (fail)
      have HX2 := hide (HX.out.drewN nq)
      have HE2 : Hid (Ex (fun k => k = p) w (wr.drewN nq)) := HE.out.drewN nq
      generalize wr.drewN nq = w2 at *
      clear HX HE c0 c1 d1
      have c0 := HX2.out.c0
      have c1 := HX2.out.c1
      obtain ⟨c, hc⟩ : ∃ c, s[k]? = some c := ⟨_, List.getElem?_eq_getElem hlt⟩
      obtain ⟨g, off, ha, cx⟩ := HX2.out.src k c hc
      subst ha
      have HC := hide hc
      clear hc
      go_wp2_with fail
      go_quiet (fail)
      have HX3 := hide (HX2.out.drewN nq)
      have HE3 : Hid (Ex (fun k => k = p) w (w2.drewN nq)) := HE2.out.drewN nq
      generalize w2.drewN nq = w3 at *
      clear HX2 HE2 c0 c1 cx
      by_cases h35 : c = 35
      · have d35 : (c == 35) = true := by simpa using h35
        have HT : Hid (k + skS true (s.drop k) = o + skS false (s.drop o)) := by show _ = _; rw [← hkb, drop_cons HC.out, skS_com _ h35]
        have HC35 := hide h35
        clear h35 hkb
        go_wp2
        go_loopw [49] (fun _ wr => ∃ (k2 : Nat), Hid (k ≤ k2 ∧ k2 ≤ s.length ∧ k2 + skS true (s.drop k2) = o + skS false (s.drop o)) ∧ Hid (Ex (fun k => k = p) w wr) ∧ Hid (LX R wr p (some ⟨g, off, none⟩) cp s k2)) (fun _ wr => s.length - offOf wr p)
        case atStart => exact ⟨k, ⟨Nat.le_refl _, hk, HT.out⟩, HE3, HX3⟩
        case round =>
          clear HX3 HE3
          obtain ⟨k2, HK2, HE, HX⟩ := hrel
          obtain ⟨hkk, hk2, hkb⟩ := HK2.out
          have HOF2 := hide HX.out.offOf
          have c0 := HX.out.c0
          have c1 := HX.out.c1
          by_cases hlt2 : k2 < s.length
          · have d1 : decide ((k2 : Int) < (s.length : Int)) = true := decide_eq_true (by omega)
            have hki2 : (k2 : Int) < (s.length : Int) := by omega
            obtain ⟨c2, hc2⟩ : ∃ c, s[k2]? = some c := ⟨_, List.getElem?_eq_getElem hlt2⟩
            obtain ⟨g2, off2, ha2, cx2⟩ := HX.out.src k2 c2 hc2
            obtain ⟨rfl, rfl⟩ : g = g2 ∧ off = off2 := by injection ha2 with ha2; injection ha2 with q1 q2; exact ⟨q1, q2⟩
            by_cases h10 : c2 = 10
            · have d10 : (c2 != 10) = false := by simpa using h10
              have HF : Hid (k2 ≤ s.length ∧ k2 + skS false (s.drop k2) = o + skS false (s.drop o)) := ⟨hk2, by rw [← hkb, drop_cons hc2, skS_nl _ h10]⟩
              have HGT : Hid (k < k2) := by
                show k < k2
                rcases Nat.lt_or_ge k k2 with z | z
                · exact z
                · obtain rfl : k = k2 := by omega
                  rw [HC.out] at hc2
                  have := HC35.out
                  injection hc2 with hc2
                  omega
              clear h10 hc2 hkb
              go_wp2_with fail
              go_quiet (fail)
              have HX4 := hide (HX.out.drewN nq)
              have HE4 : Hid (Ex (fun k => k = p) w (wr.drewN nq)) := HE.out.drewN nq
              generalize wr.drewN nq = w4 at *
              clear HX HE c0 c1 cx2 d1
              go_wp2
              go_roundw
              case rel => exact ⟨k2, HF, HE4, HX4⟩
              case measure => rw [HX4.out.offOf, HOF.out]; have := HGT.out; omega
            · have d10 : (c2 != 10) = true := by simpa using h10
              have HF : Hid (k ≤ k2 + 1 ∧ k2 + 1 ≤ s.length ∧ k2 + 1 + skS true (s.drop (k2 + 1)) = o + skS false (s.drop o)) := ⟨by omega, by omega, by rw [← hkb, drop_cons hc2, skS, if_neg h10]; omega⟩
              clear h10 hc2 hkb
              go_wp2_with fail
              go_quiet (fail)
              have HX4 := hide (HX.out.drewN nq)
              have HE4 : Hid (Ex (fun k => k = p) w (wr.drewN nq)) := HE.out.drewN nq
              generalize wr.drewN nq = w4 at *
              clear HX HE c0 c1 cx2 d1
              have c1 := HX4.out.c1
              have f1 := HX4.out.fz 1
              have hw1 : IntKind.i64.wrap ((k2 : Int) + 1) = ((k2 + 1 : Nat) : Int) := by rw [IntKind.wrap_i64]; omega
              have hx5 := HX4.out.off (k2 + 1)
              have HE5 : Hid (Ex (fun k => k = p) w (w4.setCell ⟨p, 1, none⟩ (.int .i64 ((k2 + 1 : Nat) : Int)))) := HE4.out.set rfl _
              rw [show ((k2 + 1 : Nat) : Int) = (k2 : Int) + 1 by omega] at hx5 HE5
              have HX5 := hide hx5
              clear hx5 HX4 HE4
              go_wp2
              go_roundw
              case rel => exact ⟨k2 + 1, HF, HE5, HX5⟩
              case measure => rw [HX5.out.offOf, HOF2.out]; omega
          · have d1 : decide ((k2 : Int) < (s.length : Int)) = false := decide_eq_false (by omega)
            have hkn : s.drop k2 = [] := List.drop_eq_nil_of_le (by omega)
            have HF : Hid (k2 ≤ s.length ∧ k2 + skS false (s.drop k2) = o + skS false (s.drop o)) := ⟨hk2, by rw [← hkb, hkn]; rfl⟩
            clear hkb hkn
            go_wp2_with fail
            go_quiet (fail)
            have HX4 := hide (HX.out.drewN nq)
            have HE4 : Hid (Ex (fun k => k = p) w (wr.drewN nq)) := HE.out.drewN nq
            generalize wr.drewN nq = w4 at *
            clear HX HE c0 c1 d1
            go_wp2
            go_roundw
            case rel => exact ⟨k2, HF, HE4, HX4⟩
            case measure => rw [HX4.out.offOf, HOF.out]; omega
      · have d35 : (c == 35) = false := by simpa using h35
        obtain ⟨bs, hbs⟩ : ∃ b, spP c = b := ⟨_, rfl⟩
        have HSP := hide (isSpace_any w3 c)
        rw [hbs] at HSP
        cases bs
        · have HF : Hid (k = o + skS false (s.drop o)) := by
            show _ = _
            rw [← hkb, drop_cons HC.out, skS, if_neg h35, if_neg (by rw [hbs]; decide)]
            rfl
          have HXF := HX3
          rw [HF.out] at HXF
          clear h35 hkb hbs HK
          go_wp2_with (go_at_call 83; refine (HSP.out).mono ?_; rintro e wq ⟨rfl, rfl⟩; simp only [])
          exact bodyPost_ret (v := .tuple #[]) (by simp [results, Try.results72]) rfl ⟨rfl, HE3.out, HXF.out⟩
        · have HF : Hid (k + 1 ≤ s.length ∧ k + 1 + skS false (s.drop (k + 1)) = o + skS false (s.drop o)) := ⟨by omega, by rw [← hkb, drop_cons HC.out, skS, if_neg h35, if_pos hbs]; omega⟩
          clear h35 hkb hbs HK
          have c1 := HX3.out.c1
          have f1 := HX3.out.fz 1
          have hw1 : IntKind.i64.wrap ((k : Int) + 1) = ((k + 1 : Nat) : Int) := by rw [IntKind.wrap_i64]; omega
          have hx5 := HX3.out.off (k + 1)
          have HE5 : Hid (Ex (fun k => k = p) w (w3.setCell ⟨p, 1, none⟩ (.int .i64 ((k + 1 : Nat) : Int)))) := HE3.out.set rfl _
          rw [show ((k + 1 : Nat) : Int) = (k : Int) + 1 by omega] at hx5 HE5
          have HX5 := hide hx5
          clear hx5 HX3 HE3
          go_wp2_with (go_at_call 83; refine (HSP.out).mono ?_; rintro e wq ⟨rfl, rfl⟩; simp only [])
          go_roundw
          case rel => exact ⟨k + 1, HF, HE5, HX5⟩
          case measure => rw [HX5.out.offOf, HOF.out]; omega
    · have d1 : decide ((k : Int) < (s.length : Int)) = false := decide_eq_false (by omega)
      have HF : Hid (k = o + skS false (s.drop o)) := by
        show _ = _
        rw [← hkb, List.drop_eq_nil_of_le (by omega)]
        rfl
      go_wp2_with fail
      go_quiet (fail)
      have hx2 := HX.out.drewN nq
      rw [HF.out] at hx2
      have HX2 := hide hx2
      have HE2 : Hid (Ex (fun k => k = p) w (wr.drewN nq)) := HE.out.drewN nq
      clear HK hkb hx2
      go_wp2
      exact ⟨rfl, .tuple #[], by simp [results, Try.results72], rfl, HE2.out, HX2.out⟩
end Go.Proofs.Qxb6500778a
