import Derived.Test.Qxb6500773aGreatLt0
namespace Go.Proofs.Qxb6500773aGreat
open Go.RowKit

/-! ### The model: literals as numbers -/
def DI (d : Int) : Prop := -16777215 ≤ d ∧ d ≤ 16777215
def absP (d : Int) : Int := if d < 0 then -d else d
set_option linter.unusedSimpArgs false in
set_option maxRecDepth 100000 in
set_option maxHeartbeats 4000000 in
/-- cnfm.VarOf -/
theorem varOf_any (w : World) (d : Int) (h : -9223372036854775807 ≤ d ∧ d ≤ 9223372036854775807) : Calls Tryz.prog 76 #[.int .i64 d] w fun e w' => e = .returned (.int .i64 (absP d)) ∧ w' = w := by
  unfold absP
  by_cases h0 : d < 0
  · rw [if_pos h0]
    have hb : decide (d < 0) = true := decide_eq_true h0
    have hw : wrap64 (-d) = -d := by unfold wrap64; omega
    go_enter Tryz.func76, Tryz.ntmps76
    go_wp2
    go_ret
    exact ⟨rfl, rfl⟩
  · rw [if_neg h0]
    have hb : decide (d < 0) = false := decide_eq_false h0
    go_enter Tryz.func76, Tryz.ntmps76
    go_wp2
    go_ret
    exact ⟨rfl, rfl⟩
set_option linter.unusedSimpArgs false in
set_option maxRecDepth 100000 in
set_option maxHeartbeats 4000000 in
/-- cnfm.CheckLit -/
theorem checkLit_any (w : World) (d : Int) : Calls Tryz.prog 77 #[.int .i64 d] w fun e w' => e = .returned (.int .i64 (fromP d).2) ∧ w' = w := by
  unfold fromP
  by_cases h0 : d = 0
  · rw [if_pos h0]
    subst h0
    go_enter Tryz.func77, Tryz.ntmps77
    go_wp2
    go_ret
    exact ⟨rfl, rfl⟩
  · rw [if_neg h0]
    have hb : (d == 0) = false := by simpa using h0
    by_cases h1 : 16777215 < d
    · rw [if_pos (.inl h1)]
      have hb1 : decide (16777215 < d) = true := decide_eq_true h1
      clear h0
      go_enter Tryz.func77, Tryz.ntmps77
      go_wp2
      go_ret
      exact ⟨rfl, rfl⟩
    · have hb1 : decide (16777215 < d) = false := decide_eq_false h1
      by_cases h2 : d < -16777215
      · rw [if_pos (.inr h2)]
        have hb2 : decide (d < -16777215) = true := decide_eq_true h2
        clear h0
        go_enter Tryz.func77, Tryz.ntmps77
        go_wp2
        go_ret
        exact ⟨rfl, rfl⟩
      · rw [if_neg (fun z => z.elim h1 h2)]
        have hb2 : decide (d < -16777215) = false := decide_eq_false h2
        clear h0
        go_enter Tryz.func77, Tryz.ntmps77
        go_wp2
        go_ret
        exact ⟨rfl, rfl⟩
set_option linter.unusedSimpArgs false in
set_option maxRecDepth 100000 in
set_option maxHeartbeats 8000000 in
/-- cnfm.CheckLits -/
theorem checkLits_any (w : World) (a : Option Addr) (c : Nat) (X : List Int) (h : IL w a X) (hl : X.length ≤ 1000000000) :
    Calls Tryz.prog 74 #[.slice a X.length c] w fun e w' => e = .returned (.int .i64 (ncE X)) ∧ w' = w := by
  have HX := hide h
  clear h
  obtain ⟨R, hR⟩ : ∃ R, ncE X = R := ⟨_, rfl⟩
  have HR := hide hR
  rw [hR]
  clear hR
  obtain ⟨n, hn⟩ : ∃ n, X.length = n := ⟨_, rfl⟩
  have HN := hide hn
  rw [hn] at hl ⊢
  clear hn
  go_enter Tryz.func74, Tryz.ntmps74
  go_wp2_with fail
  go_loopw [4, 7] (fun _ s7 wx => ∃ (i : Nat), s7 = .int .i64 i ∧ i ≤ n ∧ Hid (ncE (X.drop i) = R) ∧ wx = w) (fun _ s7 _ => n - (intOf s7).toNat)
  case atStart => exact ⟨0, rfl, Nat.zero_le _, HR, rfl⟩
  case round =>
    clear HR
    obtain ⟨i, rfl, hi, HS, rfl⟩ := hrel
    have hw1 : wrap64 ((i : Int) + 1) = ((i + 1 : Nat) : Int) := by unfold wrap64; omega
    by_cases hlt : i < n
    · have hib : decide ((i : Int) < (n : Int)) = true := decide_eq_true (by omega)
      have hii : (i : Int) < (n : Int) := by omega
      obtain ⟨x, hx⟩ : ∃ x, X[i]? = some x := ⟨_, List.getElem?_eq_getElem (by rw [HN.out]; exact hlt)⟩
      obtain ⟨g, o, ea, x0⟩ := HX.out i x hx
      subst ea
      rw [drop_consG hx] at HS
      have HXM : Hid (x ∈ X) := List.mem_of_getElem? hx
      clear hx
      have HS2 : Hid ((if (fromP x).2 = 0 then ncE (X.drop (i + 1)) else (fromP x).2) = R) := HS.out
      have c77 := hide (checkLit_any wr x)
      have c77b := hide (checkLit_any wr x)
      clear HS HXM
      generalize (fromP x).2 = er at *
      go_wp2_with fail
      refine c77.out.mono ?_
      rintro e wz ⟨rfl, hw⟩
      rw [hw]
      clear hw wz c77
      by_cases her : er = 0
      · rw [if_pos her] at HS2
        have heb : (er == 0) = true := by simpa using her
        clear her c77b
        go_wp2
        go_roundw
        case rel => exact ⟨i + 1, by go_num, by omega, HS2, trivial⟩
        case measure => (simp [intOf]; try omega)
      · rw [if_neg her] at HS2
        have heb : (er == 0) = false := by simpa using her
        clear her
        go_wp2_with fail
        refine c77b.out.mono ?_
        rintro e wz ⟨rfl, hw⟩
        rw [hw]
        clear hw wz c77b
        go_wp2
        go_ret
        exact ⟨ret_int HS2.out, rfl⟩
    · have hib : decide ((i : Int) < (n : Int)) = false := decide_eq_false (by omega)
      rw [List.drop_of_length_le (by rw [HN.out]; omega)] at HS
      have HQ : Hid (0 = R) := HS.out
      clear HS
      go_wp2
      go_ret
      exact ⟨ret_int HQ.out, rfl⟩
def memP (X : List Int) (d : Int) : Bool := X.any (fun x => x == d)
theorem mem_iff (X : List Int) (d : Int) : memP X d = true ↔ d ∈ X := has_iff X d
set_option linter.unusedSimpArgs false in
set_option maxRecDepth 100000 in
set_option maxHeartbeats 8000000 in
/-- cnfm.Member -/
theorem member_any (w : World) (a : Option Addr) (c : Nat) (X : List Int) (d : Int) (h : IL w a X) (hl : X.length ≤ 1000000000) :
    Calls Tryz.prog 133 #[.slice a X.length c, .int .i64 d] w fun e w' => e = .returned (.bool (memP X d)) ∧ w' = w := by
  have HX := hide h
  clear h
  obtain ⟨R, hR⟩ : ∃ R, memP X d = R := ⟨_, rfl⟩
  have HR := hide hR
  rw [hR]
  clear hR
  obtain ⟨n, hn⟩ : ∃ n, X.length = n := ⟨_, rfl⟩
  have HN := hide hn
  rw [hn] at hl ⊢
  clear hn
  go_enter Tryz.func133, Tryz.ntmps133
  go_wp2_with fail
  go_loopw [6, 9] (fun _ s9 wx => ∃ (i : Nat), s9 = .int .i64 i ∧ i ≤ n ∧ Hid (memP (X.drop i) d = R) ∧ wx = w) (fun _ s9 _ => n - (intOf s9).toNat)
  case atStart => exact ⟨0, rfl, Nat.zero_le _, HR, rfl⟩
  case round =>
    clear HR
    obtain ⟨i, rfl, hi, HS, rfl⟩ := hrel
    have hw1 : wrap64 ((i : Int) + 1) = ((i + 1 : Nat) : Int) := by unfold wrap64; omega
    by_cases hlt : i < n
    · have hib : decide ((i : Int) < (n : Int)) = true := decide_eq_true (by omega)
      have hii : (i : Int) < (n : Int) := by omega
      obtain ⟨x, hx⟩ : ∃ x, X[i]? = some x := ⟨_, List.getElem?_eq_getElem (by rw [HN.out]; exact hlt)⟩
      obtain ⟨g, o, ea, x0⟩ := HX.out i x hx
      subst ea
      rw [drop_consG hx] at HS
      have HXM : Hid (x ∈ X) := List.mem_of_getElem? hx
      clear hx
      have HS2 : Hid (((x == d) || memP (X.drop (i + 1)) d) = R) := HS.out
      clear HS HXM
      by_cases hxd : x = d
      · have hxb : (x == d) = true := by simpa using hxd
        rw [hxb, Bool.true_or] at HS2
        clear hxd
        go_wp2
        go_ret
        exact ⟨ret_bool HS2.out, rfl⟩
      · have hxb : (x == d) = false := by simpa using hxd
        rw [hxb, Bool.false_or] at HS2
        clear hxd
        go_wp2
        go_roundw
        case rel => exact ⟨i + 1, by go_num, by omega, HS2, trivial⟩
        case measure => (simp [intOf]; try omega)
    · have hib : decide ((i : Int) < (n : Int)) = false := decide_eq_false (by omega)
      rw [List.drop_of_length_le (by rw [HN.out]; omega)] at HS
      have HQ : Hid (false = R) := HS.out
      clear HS
      go_wp2
      go_ret
      exact ⟨ret_bool HQ.out, rfl⟩
def mvP (A : List Int) (d : Int) : Int := if memP A d = true then 1 else if memP A (-d) = true then -1 else 0
set_option linter.unusedSimpArgs false in
set_option maxRecDepth 100000 in
set_option maxHeartbeats 8000000 in
/-- cnfm.Value -/
theorem value_any (w : World) (a : Option Addr) (c : Nat) (A : List Int) (h : IL w a A) (hl : A.length ≤ 1000000000) (d : Int) (hd : -9223372036854775807 ≤ d ∧ d ≤ 9223372036854775807) :
    Calls Tryz.prog 80 #[.slice a A.length c, .int .i64 d] w fun e w' => e = .returned (.int .i8 (mvP A d)) ∧ w' = w := by
  have c1 := hide (member_any w a c A d h hl)
  have c2 := hide (member_any w a c A (-d) h hl)
  have hw : wrap64 (-d) = -d := by unfold wrap64; omega
  unfold mvP
  generalize memP A d = b1 at *
  generalize memP A (-d) = b2 at *
  generalize A.length = n at *
  clear h
  cases b1
  · rw [if_neg (by decide)]
    go_enter Tryz.func80, Tryz.ntmps80
    go_wp2_with fail
    refine c1.out.mono ?_
    rintro e wz ⟨rfl, hw⟩
    rw [hw]
    clear hw wz c1
    go_wp2_with fail
    refine c2.out.mono ?_
    rintro e wz ⟨rfl, hw⟩
    rw [hw]
    clear hw wz c2
    cases b2
    · go_wp2
      go_ret
      exact ⟨rfl, rfl⟩
    · go_wp2
      go_ret
      exact ⟨rfl, rfl⟩
  · rw [if_pos rfl]
    clear c2
    go_enter Tryz.func80, Tryz.ntmps80
    go_wp2_with fail
    refine c1.out.mono ?_
    rintro e wz ⟨rfl, hw⟩
    rw [hw]
    clear hw wz c1
    go_wp2
    go_ret
    exact ⟨rfl, rfl⟩
def bfP (x y : Int) : Bool := if absP x = absP y then decide (y < x) else decide (absP x < absP y)
set_option linter.unusedSimpArgs false in
set_option maxRecDepth 100000 in
set_option maxHeartbeats 8000000 in
/-- cnfm.Before -/
theorem before_any (w : World) (x y : Int) (hx : -9223372036854775807 ≤ x ∧ x ≤ 9223372036854775807) (hy : -9223372036854775807 ≤ y ∧ y ≤ 9223372036854775807) :
    Calls Tryz.prog 135 #[.int .i64 x, .int .i64 y] w fun e w' => e = .returned (.bool (bfP x y)) ∧ w' = w := by
  have c1 := hide (varOf_any w x hx)
  have c2 := hide (varOf_any w y hy)
  have c3 := c1
  have c4 := c2
  unfold bfP
  generalize absP x = p at *
  generalize absP y = q at *
  by_cases h : p = q
  · rw [if_pos h]
    have hb : (p != q) = false := by simp [h]
    clear h c3 c4
    go_enter Tryz.func135, Tryz.ntmps135
    go_wp2_with fail
    refine c1.out.mono ?_
    rintro e wz ⟨rfl, hw⟩
    rw [hw]
    clear hw wz c1
    go_wp2_with fail
    refine c2.out.mono ?_
    rintro e wz ⟨rfl, hw⟩
    rw [hw]
    clear hw wz c2
    go_wp2
    go_ret
    exact ⟨rfl, rfl⟩
  · rw [if_neg h]
    have hb : (p != q) = true := by simp [h]
    clear h
    go_enter Tryz.func135, Tryz.ntmps135
    go_wp2_with fail
    refine c1.out.mono ?_
    rintro e wz ⟨rfl, hw⟩
    rw [hw]
    clear hw wz c1
    go_wp2_with fail
    refine c2.out.mono ?_
    rintro e wz ⟨rfl, hw⟩
    rw [hw]
    clear hw wz c2
    go_wp2_with fail
    refine c3.out.mono ?_
    rintro e wz ⟨rfl, hw⟩
    rw [hw]
    clear hw wz c3
    go_wp2_with fail
    refine c4.out.mono ?_
    rintro e wz ⟨rfl, hw⟩
    rw [hw]
    clear hw wz c4
    go_wp2
    go_ret
    exact ⟨rfl, rfl⟩
set_option linter.unusedSimpArgs false in
set_option maxRecDepth 100000 in
set_option maxHeartbeats 8000000 in
/-- cnfm.Tautology -/
theorem tautology_any (w : World) (a : Option Addr) (c : Nat) (X : List Int) (h : IL w a X) (hl : X.length ≤ 1000000000) (hd : ∀ x ∈ X, -9223372036854775807 ≤ x ∧ x ≤ 9223372036854775807) :
    Calls Tryz.prog 85 #[.slice a X.length c] w fun e w' => e = .returned (.bool (X.any (fun d => memP X (-d)))) ∧ w' = w := by
  have HX := hide h
  clear h
  have HD := hide hd
  clear hd
  obtain ⟨R, hR⟩ : ∃ R, X.any (fun d => memP X (-d)) = R := ⟨_, rfl⟩
  have HR := hide hR
  rw [hR]
  clear hR
  obtain ⟨n, hn⟩ : ∃ n, X.length = n := ⟨_, rfl⟩
  have HN := hide hn
  rw [hn] at hl ⊢
  clear hn
  go_enter Tryz.func85, Tryz.ntmps85
  go_wp2_with fail
  go_loopw [4, 7] (fun _ s7 wx => ∃ (i : Nat), s7 = .int .i64 i ∧ i ≤ n ∧ Hid ((X.drop i).any (fun d => memP X (-d)) = R) ∧ wx = w) (fun _ s7 _ => n - (intOf s7).toNat)
  case atStart => exact ⟨0, rfl, Nat.zero_le _, HR, rfl⟩
  case round =>
    clear HR
    obtain ⟨i, rfl, hi, HS, rfl⟩ := hrel
    have hw1 : wrap64 ((i : Int) + 1) = ((i + 1 : Nat) : Int) := by unfold wrap64; omega
    by_cases hlt : i < n
    · have hib : decide ((i : Int) < (n : Int)) = true := decide_eq_true (by omega)
      have hii : (i : Int) < (n : Int) := by omega
      obtain ⟨x, hx⟩ : ∃ x, X[i]? = some x := ⟨_, List.getElem?_eq_getElem (by rw [HN.out]; exact hlt)⟩
      obtain ⟨g, o, ea, x0⟩ := HX.out i x hx
      subst ea
      rw [drop_consG hx] at HS
      have HXM : Hid (x ∈ X) := List.mem_of_getElem? hx
      clear hx
      have HS2 : Hid ((memP X (-x) || (X.drop (i + 1)).any (fun d => memP X (-d))) = R) := HS.out
      have hxd := HD.out x HXM.out
      have hxw : wrap64 (-x) = -x := by unfold wrap64; omega
      have c1 := hide (member_any wr (some ⟨g, o, none⟩) c X (-x) HX.out (by rw [HN.out]; exact hl))
      rw [HN.out] at c1
      clear HS HXM hxd
      generalize memP X (-x) = b1 at *
      go_wp2_with fail
      refine c1.out.mono ?_
      rintro e wz ⟨rfl, hw⟩
      rw [hw]
      clear hw wz c1
      cases b1
      · rw [Bool.false_or] at HS2
        go_wp2
        go_roundw
        case rel => exact ⟨i + 1, by go_num, by omega, HS2, trivial⟩
        case measure => (simp [intOf]; try omega)
      · rw [Bool.true_or] at HS2
        go_wp2
        go_ret
        exact ⟨ret_bool HS2.out, rfl⟩
    · have hib : decide ((i : Int) < (n : Int)) = false := decide_eq_false (by omega)
      rw [List.drop_of_length_le (by rw [HN.out]; omega)] at HS
      have HQ : Hid (false = R) := HS.out
      clear HS
      go_wp2
      go_ret
      exact ⟨ret_bool HQ.out, rfl⟩
end Go.Proofs.Qxb6500773aGreat
