import Derived.Test.Qxb6500778aP2
namespace Go.Proofs.Qxb6500778a
open Go.RowKit

/-- A change's line. -/
def chgT (c : Chg) : List Int :=
  if c.kd = 0 then strL ⟨#[32, 32, 114, 111, 117, 116, 101, 32, 97, 100, 100]⟩ ++ (devT c.dv.toNat ++ (prefT c.pr.toNat c.ln.toNat ++ (strL ⟨#[32, 118, 105, 97]⟩ ++ (devT c.hp.toNat ++ (strL ⟨#[10]⟩))))) else
  if c.kd = 1 then strL ⟨#[32, 32, 114, 111, 117, 116, 101, 32, 100, 101, 108]⟩ ++ (devT c.dv.toNat ++ (prefT c.pr.toNat c.ln.toNat ++ (strL ⟨#[10]⟩))) else
  if c.kd = 2 then strL ⟨#[32, 32, 97, 99, 108, 32, 105, 110, 115, 101, 114, 116]⟩ ++ (devT c.dv.toNat ++ (strL ⟨#[32, 97, 116, 32]⟩ ++ (decL c.ix.toNat ++ ((if c.pm = true then strL ⟨#[32, 112, 101, 114, 109, 105, 116]⟩ else strL ⟨#[32, 100, 101, 110, 121]⟩) ++ (prefT c.pr.toNat c.ln.toNat ++ (strL ⟨#[32, 99, 108, 97, 115, 115, 32]⟩ ++ ((if c.cl = 16 then strL ⟨#[97, 110, 121]⟩ else decL c.cl.toNat) ++ (strL ⟨#[10]⟩)))))))) else
  if c.kd = 3 then strL ⟨#[32, 32, 97, 99, 108, 32, 114, 101, 109, 111, 118, 101]⟩ ++ (devT c.dv.toNat ++ (strL ⟨#[32, 97, 116, 32]⟩ ++ (decL c.ix.toNat ++ (strL ⟨#[10]⟩)))) else
  if c.kd = 4 then strL ⟨#[32, 32, 108, 105, 110, 107]⟩ ++ (devT c.dv.toNat ++ (devT c.hp.toNat ++ ((if c.up = true then strL ⟨#[32, 117, 112]⟩ else strL ⟨#[32, 100, 111, 119, 110]⟩) ++ (strL ⟨#[10]⟩)))) else
  strL ⟨#[32, 32, 105, 102, 97, 99, 101]⟩ ++ (devT c.dv.toNat ++ ((if c.up = true then strL ⟨#[32, 117, 112]⟩ else strL ⟨#[32, 100, 111, 119, 110]⟩) ++ (strL ⟨#[10]⟩)))
set_option linter.unusedSimpArgs false in
set_option maxRecDepth 100000 in
set_option maxHeartbeats 8000000 in
theorem chg_add (w : World) (p : Nat) (X : List Int) (q o : Nat) (d : Nat) (hd : d ≤ 15) (h : Nat) (hh : h ≤ 15) (pr ln : Nat) (hpr : pr ≤ 255) (hln : ln ≤ 8) (ix cl : Int) (pm up : Bool) (hc : CO w q o ⟨0, d, h, pr, ln, ix, cl, pm, up⟩) (hq : q < p) (hP : PR w p X) (hl : X.length + 2000 ≤ 1099511627776) :
    Calls Try.prog 40 #[.pointer (some ⟨p, 0, none⟩), .pointer (some ⟨q, o, none⟩)] w (PRPost w p (X ++ chgT ⟨0, d, h, pr, ln, ix, cl, pm, up⟩)) := by
  have HP := hide hP
  have HC := hide hc
  have HE : Hid (Ex (fun k => p ≤ k) w w) := Ex.refl _ _
  have HL : Hid (X.length ≤ X.length) := Nat.le_refl _
  have k0 := hc.c0
  have HC1 := hide hc.c1
  have HC2 := hide hc.c2
  have HC3 := hide hc.c3
  have HC4 := hide hc.c4
  have HC5 := hide hc.c5
  have HC6 := hide hc.c6
  have HC7 := hide hc.c7
  have HC8 := hide hc.c8
  simp only [] at k0 HC1 HC2 HC3 HC4 HC5 HC6 HC7 HC8
  have hqp : ¬ p ≤ q := by omega
  clear hP hc
  go_enter Try.func40, Try.ntmps40
  obtain ⟨X1, hX1⟩ : ∃ Y, X ++ strL ⟨#[32, 32, 114, 111, 117, 116, 101, 32, 97, 100, 100]⟩ = Y := ⟨_, rfl⟩
  have HX1 := hide hX1
  go_wp2_with fail
  refine (str_any _ p X ⟨#[32, 32, 114, 111, 117, 116, 101, 32, 97, 100, 100]⟩ HP.out (by have := HL.out; have : (strL ⟨#[32, 32, 114, 111, 117, 116, 101, 32, 97, 100, 100]⟩).length = 11 := rfl; omega)).mono ?_
  rintro e v1 ⟨rfl, hp_, hex_⟩
  rw [hX1] at hp_
  replace HP := hide hp_
  replace HE := hide (HE.out.trans hex_)
  replace HL : Hid (X1.length ≤ X.length + 11) := by show _ ≤ _; rw [← hX1, List.length_append]; have := HL.out; have : (strL ⟨#[32, 32, 114, 111, 117, 116, 101, 32, 97, 100, 100]⟩).length = 11 := rfl; omega
  clear hp_ hex_ k0 hX1
  have k1 := HE.out.cell hqp HC1.out
  obtain ⟨X2, hX2⟩ : ∃ Y, X1 ++ devT d = Y := ⟨_, rfl⟩
  have HX2 := hide hX2
  go_wp2_with fail
  refine (dev_any _ p X1 d (by omega) HP.out (by have := HL.out; omega)).mono ?_
  rintro e v2 ⟨rfl, hp_, hex_⟩
  rw [hX2] at hp_
  replace HP := hide hp_
  replace HE := hide (HE.out.trans hex_)
  replace HL : Hid (X2.length ≤ X.length + 11 + 18) := by show _ ≤ _; rw [← hX2, List.length_append]; have := HL.out; have := devT_len d; omega
  clear hp_ hex_ hX2 k1
  obtain ⟨X3, hX3⟩ : ∃ Y, X2 ++ prefT pr ln = Y := ⟨_, rfl⟩
  have HX3 := hide hX3
  go_wp2_with fail
  refine (prefix_pr _ p X2 q o _ pr ln rfl rfl (by omega) (by omega) (HC.out.other HE.out hqp) (by omega) HP.out (by have := HL.out; omega)).mono ?_
  rintro e v3 ⟨rfl, hp_, hex_⟩
  rw [hX3] at hp_
  replace HP := hide hp_
  replace HE := hide (HE.out.trans hex_)
  replace HL : Hid (X3.length ≤ X.length + 11 + 18 + 267) := by show _ ≤ _; rw [← hX3, List.length_append]; have := HL.out; have := prefT_len pr ln; omega
  clear hp_ hex_ hX3
  obtain ⟨X4, hX4⟩ : ∃ Y, X3 ++ strL ⟨#[32, 118, 105, 97]⟩ = Y := ⟨_, rfl⟩
  have HX4 := hide hX4
  go_wp2_with fail
  refine (str_any _ p X3 ⟨#[32, 118, 105, 97]⟩ HP.out (by have := HL.out; have : (strL ⟨#[32, 118, 105, 97]⟩).length = 4 := rfl; omega)).mono ?_
  rintro e v4 ⟨rfl, hp_, hex_⟩
  rw [hX4] at hp_
  replace HP := hide hp_
  replace HE := hide (HE.out.trans hex_)
  replace HL : Hid (X4.length ≤ X.length + 11 + 18 + 267 + 4) := by show _ ≤ _; rw [← hX4, List.length_append]; have := HL.out; have : (strL ⟨#[32, 118, 105, 97]⟩).length = 4 := rfl; omega
  clear hp_ hex_ hX4
  have k2 := HE.out.cell hqp HC2.out
  obtain ⟨X5, hX5⟩ : ∃ Y, X4 ++ devT h = Y := ⟨_, rfl⟩
  have HX5 := hide hX5
  go_wp2_with fail
  refine (dev_any _ p X4 h (by omega) HP.out (by have := HL.out; omega)).mono ?_
  rintro e v5 ⟨rfl, hp_, hex_⟩
  rw [hX5] at hp_
  replace HP := hide hp_
  replace HE := hide (HE.out.trans hex_)
  replace HL : Hid (X5.length ≤ X.length + 11 + 18 + 267 + 4 + 18) := by show _ ≤ _; rw [← hX5, List.length_append]; have := HL.out; have := devT_len h; omega
  clear hp_ hex_ hX5 k2
  obtain ⟨X6, hX6⟩ : ∃ Y, X5 ++ strL ⟨#[10]⟩ = Y := ⟨_, rfl⟩
  have HX6 := hide hX6
  go_wp2_with fail
  refine (str_any _ p X5 ⟨#[10]⟩ HP.out (by have := HL.out; have : (strL ⟨#[10]⟩).length = 1 := rfl; omega)).mono ?_
  rintro e v6 ⟨rfl, hp_, hex_⟩
  rw [hX6] at hp_
  replace HP := hide hp_
  replace HE := hide (HE.out.trans hex_)
  replace HL : Hid (X6.length ≤ X.length + 11 + 18 + 267 + 4 + 18 + 1) := by show _ ≤ _; rw [← hX6, List.length_append]; have := HL.out; have : (strL ⟨#[10]⟩).length = 1 := rfl; omega
  clear hp_ hex_ hX6
  go_wp2
  go_end0
  refine ⟨rfl, ?_, HE.out⟩
  have e : X ++ chgT ⟨0, d, h, pr, ln, ix, cl, pm, up⟩ = X6 := by
    rw [← HX6.out, ← HX5.out, ← HX4.out, ← HX3.out, ← HX2.out, ← HX1.out]
    simp only [chgT, Int.toNat_natCast, List.append_assoc, if_true, if_false, reduceCtorEq]
    all_goals simp
  rw [e]
  exact HP.out
set_option linter.unusedSimpArgs false in
set_option maxRecDepth 100000 in
set_option maxHeartbeats 8000000 in
theorem chg_del (w : World) (p : Nat) (X : List Int) (q o : Nat) (d : Nat) (hd : d ≤ 15) (hp : Int) (pr ln : Nat) (hpr : pr ≤ 255) (hln : ln ≤ 8) (ix cl : Int) (pm up : Bool) (hc : CO w q o ⟨1, d, hp, pr, ln, ix, cl, pm, up⟩) (hq : q < p) (h : PR w p X) (hl : X.length + 2000 ≤ 1099511627776) :
    Calls Try.prog 40 #[.pointer (some ⟨p, 0, none⟩), .pointer (some ⟨q, o, none⟩)] w (PRPost w p (X ++ chgT ⟨1, d, hp, pr, ln, ix, cl, pm, up⟩)) := by
  have HP := hide h
  have HC := hide hc
  have HE : Hid (Ex (fun k => p ≤ k) w w) := Ex.refl _ _
  have HL : Hid (X.length ≤ X.length) := Nat.le_refl _
  have k0 := hc.c0
  have HC1 := hide hc.c1
  have HC2 := hide hc.c2
  have HC3 := hide hc.c3
  have HC4 := hide hc.c4
  have HC5 := hide hc.c5
  have HC6 := hide hc.c6
  have HC7 := hide hc.c7
  have HC8 := hide hc.c8
  simp only [] at k0 HC1 HC2 HC3 HC4 HC5 HC6 HC7 HC8
  have hqp : ¬ p ≤ q := by omega
  clear h hc
  go_enter Try.func40, Try.ntmps40
  obtain ⟨X1, hX1⟩ : ∃ Y, X ++ strL ⟨#[32, 32, 114, 111, 117, 116, 101, 32, 100, 101, 108]⟩ = Y := ⟨_, rfl⟩
  have HX1 := hide hX1
  go_wp2_with fail
  refine (str_any _ p X ⟨#[32, 32, 114, 111, 117, 116, 101, 32, 100, 101, 108]⟩ HP.out (by have := HL.out; have : (strL ⟨#[32, 32, 114, 111, 117, 116, 101, 32, 100, 101, 108]⟩).length = 11 := rfl; omega)).mono ?_
  rintro e v1 ⟨rfl, hp_, hex_⟩
  rw [hX1] at hp_
  replace HP := hide hp_
  replace HE := hide (HE.out.trans hex_)
  replace HL : Hid (X1.length ≤ X.length + 11) := by show _ ≤ _; rw [← hX1, List.length_append]; have := HL.out; have : (strL ⟨#[32, 32, 114, 111, 117, 116, 101, 32, 100, 101, 108]⟩).length = 11 := rfl; omega
  clear hp_ hex_ k0 hX1
  have k1 := HE.out.cell hqp HC1.out
  obtain ⟨X2, hX2⟩ : ∃ Y, X1 ++ devT d = Y := ⟨_, rfl⟩
  have HX2 := hide hX2
  go_wp2_with fail
  refine (dev_any _ p X1 d (by omega) HP.out (by have := HL.out; omega)).mono ?_
  rintro e v2 ⟨rfl, hp_, hex_⟩
  rw [hX2] at hp_
  replace HP := hide hp_
  replace HE := hide (HE.out.trans hex_)
  replace HL : Hid (X2.length ≤ X.length + 11 + 18) := by show _ ≤ _; rw [← hX2, List.length_append]; have := HL.out; have := devT_len d; omega
  clear hp_ hex_ hX2 k1
  obtain ⟨X3, hX3⟩ : ∃ Y, X2 ++ prefT pr ln = Y := ⟨_, rfl⟩
  have HX3 := hide hX3
  go_wp2_with fail
  refine (prefix_pr _ p X2 q o _ pr ln rfl rfl (by omega) (by omega) (HC.out.other HE.out hqp) (by omega) HP.out (by have := HL.out; omega)).mono ?_
  rintro e v3 ⟨rfl, hp_, hex_⟩
  rw [hX3] at hp_
  replace HP := hide hp_
  replace HE := hide (HE.out.trans hex_)
  replace HL : Hid (X3.length ≤ X.length + 11 + 18 + 267) := by show _ ≤ _; rw [← hX3, List.length_append]; have := HL.out; have := prefT_len pr ln; omega
  clear hp_ hex_ hX3
  obtain ⟨X4, hX4⟩ : ∃ Y, X3 ++ strL ⟨#[10]⟩ = Y := ⟨_, rfl⟩
  have HX4 := hide hX4
  go_wp2_with fail
  refine (str_any _ p X3 ⟨#[10]⟩ HP.out (by have := HL.out; have : (strL ⟨#[10]⟩).length = 1 := rfl; omega)).mono ?_
  rintro e v4 ⟨rfl, hp_, hex_⟩
  rw [hX4] at hp_
  replace HP := hide hp_
  replace HE := hide (HE.out.trans hex_)
  replace HL : Hid (X4.length ≤ X.length + 11 + 18 + 267 + 1) := by show _ ≤ _; rw [← hX4, List.length_append]; have := HL.out; have : (strL ⟨#[10]⟩).length = 1 := rfl; omega
  clear hp_ hex_ hX4
  go_wp2
  go_end0
  refine ⟨rfl, ?_, HE.out⟩
  have e : X ++ chgT ⟨1, d, hp, pr, ln, ix, cl, pm, up⟩ = X4 := by
    rw [← HX4.out, ← HX3.out, ← HX2.out, ← HX1.out]
    simp only [chgT, Int.toNat_natCast, List.append_assoc, if_true, if_false, reduceCtorEq]
    all_goals simp
  rw [e]
  exact HP.out
set_option linter.unusedSimpArgs false in
set_option maxRecDepth 100000 in
set_option maxHeartbeats 8000000 in
theorem chg_rem (w : World) (p : Nat) (X : List Int) (q o : Nat) (d : Nat) (hd : d ≤ 15) (hp pr ln : Int) (ix : Nat) (hix : ix ≤ 63) (cl : Int) (pm up : Bool) (hc : CO w q o ⟨3, d, hp, pr, ln, ix, cl, pm, up⟩) (hq : q < p) (h : PR w p X) (hl : X.length + 2000 ≤ 1099511627776) :
    Calls Try.prog 40 #[.pointer (some ⟨p, 0, none⟩), .pointer (some ⟨q, o, none⟩)] w (PRPost w p (X ++ chgT ⟨3, d, hp, pr, ln, ix, cl, pm, up⟩)) := by
  have HP := hide h
  have HC := hide hc
  have HE : Hid (Ex (fun k => p ≤ k) w w) := Ex.refl _ _
  have HL : Hid (X.length ≤ X.length) := Nat.le_refl _
  have k0 := hc.c0
  have HC1 := hide hc.c1
  have HC2 := hide hc.c2
  have HC3 := hide hc.c3
  have HC4 := hide hc.c4
  have HC5 := hide hc.c5
  have HC6 := hide hc.c6
  have HC7 := hide hc.c7
  have HC8 := hide hc.c8
  simp only [] at k0 HC1 HC2 HC3 HC4 HC5 HC6 HC7 HC8
  have hqp : ¬ p ≤ q := by omega
  clear h hc
  go_enter Try.func40, Try.ntmps40
  obtain ⟨X1, hX1⟩ : ∃ Y, X ++ strL ⟨#[32, 32, 97, 99, 108, 32, 114, 101, 109, 111, 118, 101]⟩ = Y := ⟨_, rfl⟩
  have HX1 := hide hX1
  go_wp2_with fail
  refine (str_any _ p X ⟨#[32, 32, 97, 99, 108, 32, 114, 101, 109, 111, 118, 101]⟩ HP.out (by have := HL.out; have : (strL ⟨#[32, 32, 97, 99, 108, 32, 114, 101, 109, 111, 118, 101]⟩).length = 12 := rfl; omega)).mono ?_
  rintro e v1 ⟨rfl, hp_, hex_⟩
  rw [hX1] at hp_
  replace HP := hide hp_
  replace HE := hide (HE.out.trans hex_)
  replace HL : Hid (X1.length ≤ X.length + 12) := by show _ ≤ _; rw [← hX1, List.length_append]; have := HL.out; have : (strL ⟨#[32, 32, 97, 99, 108, 32, 114, 101, 109, 111, 118, 101]⟩).length = 12 := rfl; omega
  clear hp_ hex_ k0 hX1
  have k1 := HE.out.cell hqp HC1.out
  obtain ⟨X2, hX2⟩ : ∃ Y, X1 ++ devT d = Y := ⟨_, rfl⟩
  have HX2 := hide hX2
  go_wp2_with fail
  refine (dev_any _ p X1 d (by omega) HP.out (by have := HL.out; omega)).mono ?_
  rintro e v2 ⟨rfl, hp_, hex_⟩
  rw [hX2] at hp_
  replace HP := hide hp_
  replace HE := hide (HE.out.trans hex_)
  replace HL : Hid (X2.length ≤ X.length + 12 + 18) := by show _ ≤ _; rw [← hX2, List.length_append]; have := HL.out; have := devT_len d; omega
  clear hp_ hex_ hX2 k1
  obtain ⟨X3, hX3⟩ : ∃ Y, X2 ++ strL ⟨#[32, 97, 116, 32]⟩ = Y := ⟨_, rfl⟩
  have HX3 := hide hX3
  go_wp2_with fail
  refine (str_any _ p X2 ⟨#[32, 97, 116, 32]⟩ HP.out (by have := HL.out; have : (strL ⟨#[32, 97, 116, 32]⟩).length = 4 := rfl; omega)).mono ?_
  rintro e v3 ⟨rfl, hp_, hex_⟩
  rw [hX3] at hp_
  replace HP := hide hp_
  replace HE := hide (HE.out.trans hex_)
  replace HL : Hid (X3.length ≤ X.length + 12 + 18 + 4) := by show _ ≤ _; rw [← hX3, List.length_append]; have := HL.out; have : (strL ⟨#[32, 97, 116, 32]⟩).length = 4 := rfl; omega
  clear hp_ hex_ hX3
  have k5 := HE.out.cell hqp HC5.out
  obtain ⟨X4, hX4⟩ : ∃ Y, X3 ++ decL ix = Y := ⟨_, rfl⟩
  have HX4 := hide hX4
  go_wp2_with fail
  refine (num_any ix _ p X3 (by omega) HP.out (by have := HL.out; omega)).mono ?_
  rintro e v4 ⟨rfl, hp_, hex_⟩
  rw [hX4] at hp_
  replace HP := hide hp_
  replace HE := hide (HE.out.trans hex_)
  replace HL : Hid (X4.length ≤ X.length + 12 + 18 + 4 + 64) := by show _ ≤ _; rw [← hX4, List.length_append]; have := HL.out; have := decL_len ix; omega
  clear hp_ hex_ hX4 k5
  obtain ⟨X5, hX5⟩ : ∃ Y, X4 ++ strL ⟨#[10]⟩ = Y := ⟨_, rfl⟩
  have HX5 := hide hX5
  go_wp2_with fail
  refine (str_any _ p X4 ⟨#[10]⟩ HP.out (by have := HL.out; have : (strL ⟨#[10]⟩).length = 1 := rfl; omega)).mono ?_
  rintro e v5 ⟨rfl, hp_, hex_⟩
  rw [hX5] at hp_
  replace HP := hide hp_
  replace HE := hide (HE.out.trans hex_)
  replace HL : Hid (X5.length ≤ X.length + 12 + 18 + 4 + 64 + 1) := by show _ ≤ _; rw [← hX5, List.length_append]; have := HL.out; have : (strL ⟨#[10]⟩).length = 1 := rfl; omega
  clear hp_ hex_ hX5
  go_wp2
  go_end0
  refine ⟨rfl, ?_, HE.out⟩
  have e : X ++ chgT ⟨3, d, hp, pr, ln, ix, cl, pm, up⟩ = X5 := by
    rw [← HX5.out, ← HX4.out, ← HX3.out, ← HX2.out, ← HX1.out]
    simp only [chgT, Int.toNat_natCast, List.append_assoc, if_true, if_false, reduceCtorEq]
    all_goals simp
  rw [e]
  exact HP.out
set_option linter.unusedSimpArgs false in
set_option maxRecDepth 100000 in
set_option maxHeartbeats 8000000 in
theorem chg_link (w : World) (p : Nat) (X : List Int) (q o : Nat) (d : Nat) (hd : d ≤ 15) (h : Nat) (hh : h ≤ 15) (pr ln ix cl : Int) (pm up : Bool) (hc : CO w q o ⟨4, d, h, pr, ln, ix, cl, pm, up⟩) (hq : q < p) (hP : PR w p X) (hl : X.length + 2000 ≤ 1099511627776) :
    Calls Try.prog 40 #[.pointer (some ⟨p, 0, none⟩), .pointer (some ⟨q, o, none⟩)] w (PRPost w p (X ++ chgT ⟨4, d, h, pr, ln, ix, cl, pm, up⟩)) := by
  have HP := hide hP
  have HC := hide hc
  have HE : Hid (Ex (fun k => p ≤ k) w w) := Ex.refl _ _
  have HL : Hid (X.length ≤ X.length) := Nat.le_refl _
  have k0 := hc.c0
  have HC1 := hide hc.c1
  have HC2 := hide hc.c2
  have HC3 := hide hc.c3
  have HC4 := hide hc.c4
  have HC5 := hide hc.c5
  have HC6 := hide hc.c6
  have HC7 := hide hc.c7
  have HC8 := hide hc.c8
  simp only [] at k0 HC1 HC2 HC3 HC4 HC5 HC6 HC7 HC8
  have hqp : ¬ p ≤ q := by omega
  clear hP hc
  go_enter Try.func40, Try.ntmps40
  obtain ⟨X1, hX1⟩ : ∃ Y, X ++ strL ⟨#[32, 32, 108, 105, 110, 107]⟩ = Y := ⟨_, rfl⟩
  have HX1 := hide hX1
  go_wp2_with fail
  refine (str_any _ p X ⟨#[32, 32, 108, 105, 110, 107]⟩ HP.out (by have := HL.out; have : (strL ⟨#[32, 32, 108, 105, 110, 107]⟩).length = 6 := rfl; omega)).mono ?_
  rintro e v1 ⟨rfl, hp_, hex_⟩
  rw [hX1] at hp_
  replace HP := hide hp_
  replace HE := hide (HE.out.trans hex_)
  replace HL : Hid (X1.length ≤ X.length + 6) := by show _ ≤ _; rw [← hX1, List.length_append]; have := HL.out; have : (strL ⟨#[32, 32, 108, 105, 110, 107]⟩).length = 6 := rfl; omega
  clear hp_ hex_ k0 hX1
  have k1 := HE.out.cell hqp HC1.out
  obtain ⟨X2, hX2⟩ : ∃ Y, X1 ++ devT d = Y := ⟨_, rfl⟩
  have HX2 := hide hX2
  go_wp2_with fail
  refine (dev_any _ p X1 d (by omega) HP.out (by have := HL.out; omega)).mono ?_
  rintro e v2 ⟨rfl, hp_, hex_⟩
  rw [hX2] at hp_
  replace HP := hide hp_
  replace HE := hide (HE.out.trans hex_)
  replace HL : Hid (X2.length ≤ X.length + 6 + 18) := by show _ ≤ _; rw [← hX2, List.length_append]; have := HL.out; have := devT_len d; omega
  clear hp_ hex_ hX2 k1
  have k2 := HE.out.cell hqp HC2.out
  obtain ⟨X3, hX3⟩ : ∃ Y, X2 ++ devT h = Y := ⟨_, rfl⟩
  have HX3 := hide hX3
  go_wp2_with fail
  refine (dev_any _ p X2 h (by omega) HP.out (by have := HL.out; omega)).mono ?_
  rintro e v3 ⟨rfl, hp_, hex_⟩
  rw [hX3] at hp_
  replace HP := hide hp_
  replace HE := hide (HE.out.trans hex_)
  replace HL : Hid (X3.length ≤ X.length + 6 + 18 + 18) := by show _ ≤ _; rw [← hX3, List.length_append]; have := HL.out; have := devT_len h; omega
  clear hp_ hex_ hX3 k2
  have k8 := HE.out.cell hqp HC8.out
  obtain ⟨X4, hX4⟩ : ∃ Y, X3 ++ (if up = true then strL ⟨#[32, 117, 112]⟩ else strL ⟨#[32, 100, 111, 119, 110]⟩) = Y := ⟨_, rfl⟩
  have HX4 := hide hX4
  go_wp2_with fail
  refine (pick_any _ p X3 up ⟨#[32, 117, 112]⟩ ⟨#[32, 100, 111, 119, 110]⟩ HP.out (by have := HL.out; have : (strL ⟨#[32, 117, 112]⟩).length = 3 := rfl; have : (strL ⟨#[32, 100, 111, 119, 110]⟩).length = 5 := rfl; omega)).mono ?_
  rintro e v4 ⟨rfl, hp_, hex_⟩
  rw [hX4] at hp_
  replace HP := hide hp_
  replace HE := hide (HE.out.trans hex_)
  replace HL : Hid (X4.length ≤ X.length + 6 + 18 + 18 + 10) := by show _ ≤ _; rw [← hX4, List.length_append]; have := HL.out; have : (strL ⟨#[32, 117, 112]⟩).length = 3 := rfl; have : (strL ⟨#[32, 100, 111, 119, 110]⟩).length = 5 := rfl; split <;> omega
  clear hp_ hex_ hX4 k8
  obtain ⟨X5, hX5⟩ : ∃ Y, X4 ++ strL ⟨#[10]⟩ = Y := ⟨_, rfl⟩
  have HX5 := hide hX5
  go_wp2_with fail
  refine (str_any _ p X4 ⟨#[10]⟩ HP.out (by have := HL.out; have : (strL ⟨#[10]⟩).length = 1 := rfl; omega)).mono ?_
  rintro e v5 ⟨rfl, hp_, hex_⟩
  rw [hX5] at hp_
  replace HP := hide hp_
  replace HE := hide (HE.out.trans hex_)
  replace HL : Hid (X5.length ≤ X.length + 6 + 18 + 18 + 10 + 1) := by show _ ≤ _; rw [← hX5, List.length_append]; have := HL.out; have : (strL ⟨#[10]⟩).length = 1 := rfl; omega
  clear hp_ hex_ hX5
  go_wp2
  go_end0
  refine ⟨rfl, ?_, HE.out⟩
  have e : X ++ chgT ⟨4, d, h, pr, ln, ix, cl, pm, up⟩ = X5 := by
    rw [← HX5.out, ← HX4.out, ← HX3.out, ← HX2.out, ← HX1.out]
    simp only [chgT, Int.toNat_natCast, List.append_assoc, if_true, if_false, reduceCtorEq]
    all_goals simp
  rw [e]
  exact HP.out
set_option linter.unusedSimpArgs false in
set_option maxRecDepth 100000 in
set_option maxHeartbeats 8000000 in
theorem chg_if (w : World) (p : Nat) (X : List Int) (q o : Nat) (d : Nat) (hd : d ≤ 15) (hp pr ln ix cl : Int) (pm up : Bool) (hc : CO w q o ⟨5, d, hp, pr, ln, ix, cl, pm, up⟩) (hq : q < p) (h : PR w p X) (hl : X.length + 2000 ≤ 1099511627776) :
    Calls Try.prog 40 #[.pointer (some ⟨p, 0, none⟩), .pointer (some ⟨q, o, none⟩)] w (PRPost w p (X ++ chgT ⟨5, d, hp, pr, ln, ix, cl, pm, up⟩)) := by
  have HP := hide h
  have HC := hide hc
  have HE : Hid (Ex (fun k => p ≤ k) w w) := Ex.refl _ _
  have HL : Hid (X.length ≤ X.length) := Nat.le_refl _
  have k0 := hc.c0
  have HC1 := hide hc.c1
  have HC2 := hide hc.c2
  have HC3 := hide hc.c3
  have HC4 := hide hc.c4
  have HC5 := hide hc.c5
  have HC6 := hide hc.c6
  have HC7 := hide hc.c7
  have HC8 := hide hc.c8
  simp only [] at k0 HC1 HC2 HC3 HC4 HC5 HC6 HC7 HC8
  have hqp : ¬ p ≤ q := by omega
  clear h hc
  go_enter Try.func40, Try.ntmps40
  obtain ⟨X1, hX1⟩ : ∃ Y, X ++ strL ⟨#[32, 32, 105, 102, 97, 99, 101]⟩ = Y := ⟨_, rfl⟩
  have HX1 := hide hX1
  go_wp2_with fail
  refine (str_any _ p X ⟨#[32, 32, 105, 102, 97, 99, 101]⟩ HP.out (by have := HL.out; have : (strL ⟨#[32, 32, 105, 102, 97, 99, 101]⟩).length = 7 := rfl; omega)).mono ?_
  rintro e v1 ⟨rfl, hp_, hex_⟩
  rw [hX1] at hp_
  replace HP := hide hp_
  replace HE := hide (HE.out.trans hex_)
  replace HL : Hid (X1.length ≤ X.length + 7) := by show _ ≤ _; rw [← hX1, List.length_append]; have := HL.out; have : (strL ⟨#[32, 32, 105, 102, 97, 99, 101]⟩).length = 7 := rfl; omega
  clear hp_ hex_ k0 hX1
  have k1 := HE.out.cell hqp HC1.out
  obtain ⟨X2, hX2⟩ : ∃ Y, X1 ++ devT d = Y := ⟨_, rfl⟩
  have HX2 := hide hX2
  go_wp2_with fail
  refine (dev_any _ p X1 d (by omega) HP.out (by have := HL.out; omega)).mono ?_
  rintro e v2 ⟨rfl, hp_, hex_⟩
  rw [hX2] at hp_
  replace HP := hide hp_
  replace HE := hide (HE.out.trans hex_)
  replace HL : Hid (X2.length ≤ X.length + 7 + 18) := by show _ ≤ _; rw [← hX2, List.length_append]; have := HL.out; have := devT_len d; omega
  clear hp_ hex_ hX2 k1
  have k8 := HE.out.cell hqp HC8.out
  obtain ⟨X3, hX3⟩ : ∃ Y, X2 ++ (if up = true then strL ⟨#[32, 117, 112]⟩ else strL ⟨#[32, 100, 111, 119, 110]⟩) = Y := ⟨_, rfl⟩
  have HX3 := hide hX3
  go_wp2_with fail
  refine (pick_any _ p X2 up ⟨#[32, 117, 112]⟩ ⟨#[32, 100, 111, 119, 110]⟩ HP.out (by have := HL.out; have : (strL ⟨#[32, 117, 112]⟩).length = 3 := rfl; have : (strL ⟨#[32, 100, 111, 119, 110]⟩).length = 5 := rfl; omega)).mono ?_
  rintro e v3 ⟨rfl, hp_, hex_⟩
  rw [hX3] at hp_
  replace HP := hide hp_
  replace HE := hide (HE.out.trans hex_)
  replace HL : Hid (X3.length ≤ X.length + 7 + 18 + 10) := by show _ ≤ _; rw [← hX3, List.length_append]; have := HL.out; have : (strL ⟨#[32, 117, 112]⟩).length = 3 := rfl; have : (strL ⟨#[32, 100, 111, 119, 110]⟩).length = 5 := rfl; split <;> omega
  clear hp_ hex_ hX3 k8
  obtain ⟨X4, hX4⟩ : ∃ Y, X3 ++ strL ⟨#[10]⟩ = Y := ⟨_, rfl⟩
  have HX4 := hide hX4
  go_wp2_with fail
  refine (str_any _ p X3 ⟨#[10]⟩ HP.out (by have := HL.out; have : (strL ⟨#[10]⟩).length = 1 := rfl; omega)).mono ?_
  rintro e v4 ⟨rfl, hp_, hex_⟩
  rw [hX4] at hp_
  replace HP := hide hp_
  replace HE := hide (HE.out.trans hex_)
  replace HL : Hid (X4.length ≤ X.length + 7 + 18 + 10 + 1) := by show _ ≤ _; rw [← hX4, List.length_append]; have := HL.out; have : (strL ⟨#[10]⟩).length = 1 := rfl; omega
  clear hp_ hex_ hX4
  go_wp2
  go_end0
  refine ⟨rfl, ?_, HE.out⟩
  have e : X ++ chgT ⟨5, d, hp, pr, ln, ix, cl, pm, up⟩ = X4 := by
    rw [← HX4.out, ← HX3.out, ← HX2.out, ← HX1.out]
    simp only [chgT, Int.toNat_natCast, List.append_assoc, if_true, if_false, reduceCtorEq]
    all_goals simp
  rw [e]
  exact HP.out
set_option linter.unusedSimpArgs false in
set_option maxRecDepth 100000 in
set_option maxHeartbeats 8000000 in
theorem chg_insA (w : World) (p : Nat) (X : List Int) (q o : Nat) (d : Nat) (hd : d ≤ 15) (hp : Int) (pr ln : Nat) (hpr : pr ≤ 255) (hln : ln ≤ 8) (ix : Nat) (hix : ix ≤ 63) (pm up : Bool) (hc : CO w q o ⟨2, d, hp, pr, ln, ix, 16, pm, up⟩) (hq : q < p) (h : PR w p X) (hl : X.length + 2000 ≤ 1099511627776) :
    Calls Try.prog 40 #[.pointer (some ⟨p, 0, none⟩), .pointer (some ⟨q, o, none⟩)] w (PRPost w p (X ++ chgT ⟨2, d, hp, pr, ln, ix, 16, pm, up⟩)) := by
  have HP := hide h
  have HC := hide hc
  have HE : Hid (Ex (fun k => p ≤ k) w w) := Ex.refl _ _
  have HL : Hid (X.length ≤ X.length) := Nat.le_refl _
  have k0 := hc.c0
  have HC1 := hide hc.c1
  have HC2 := hide hc.c2
  have HC3 := hide hc.c3
  have HC4 := hide hc.c4
  have HC5 := hide hc.c5
  have HC6 := hide hc.c6
  have HC7 := hide hc.c7
  have HC8 := hide hc.c8
  simp only [] at k0 HC1 HC2 HC3 HC4 HC5 HC6 HC7 HC8
  have hqp : ¬ p ≤ q := by omega
  clear h hc
  go_enter Try.func40, Try.ntmps40
  obtain ⟨X1, hX1⟩ : ∃ Y, X ++ strL ⟨#[32, 32, 97, 99, 108, 32, 105, 110, 115, 101, 114, 116]⟩ = Y := ⟨_, rfl⟩
  have HX1 := hide hX1
  go_wp2_with fail
  refine (str_any _ p X ⟨#[32, 32, 97, 99, 108, 32, 105, 110, 115, 101, 114, 116]⟩ HP.out (by have := HL.out; have : (strL ⟨#[32, 32, 97, 99, 108, 32, 105, 110, 115, 101, 114, 116]⟩).length = 12 := rfl; omega)).mono ?_
  rintro e v1 ⟨rfl, hp_, hex_⟩
  rw [hX1] at hp_
  replace HP := hide hp_
  replace HE := hide (HE.out.trans hex_)
  replace HL : Hid (X1.length ≤ X.length + 12) := by show _ ≤ _; rw [← hX1, List.length_append]; have := HL.out; have : (strL ⟨#[32, 32, 97, 99, 108, 32, 105, 110, 115, 101, 114, 116]⟩).length = 12 := rfl; omega
  clear hp_ hex_ k0 hX1
  have k1 := HE.out.cell hqp HC1.out
  obtain ⟨X2, hX2⟩ : ∃ Y, X1 ++ devT d = Y := ⟨_, rfl⟩
  have HX2 := hide hX2
  go_wp2_with fail
  refine (dev_any _ p X1 d (by omega) HP.out (by have := HL.out; omega)).mono ?_
  rintro e v2 ⟨rfl, hp_, hex_⟩
  rw [hX2] at hp_
  replace HP := hide hp_
  replace HE := hide (HE.out.trans hex_)
  replace HL : Hid (X2.length ≤ X.length + 12 + 18) := by show _ ≤ _; rw [← hX2, List.length_append]; have := HL.out; have := devT_len d; omega
  clear hp_ hex_ hX2 k1
  obtain ⟨X3, hX3⟩ : ∃ Y, X2 ++ strL ⟨#[32, 97, 116, 32]⟩ = Y := ⟨_, rfl⟩
  have HX3 := hide hX3
  go_wp2_with fail
  refine (str_any _ p X2 ⟨#[32, 97, 116, 32]⟩ HP.out (by have := HL.out; have : (strL ⟨#[32, 97, 116, 32]⟩).length = 4 := rfl; omega)).mono ?_
  rintro e v3 ⟨rfl, hp_, hex_⟩
  rw [hX3] at hp_
  replace HP := hide hp_
  replace HE := hide (HE.out.trans hex_)
  replace HL : Hid (X3.length ≤ X.length + 12 + 18 + 4) := by show _ ≤ _; rw [← hX3, List.length_append]; have := HL.out; have : (strL ⟨#[32, 97, 116, 32]⟩).length = 4 := rfl; omega
  clear hp_ hex_ hX3
  have k5 := HE.out.cell hqp HC5.out
  obtain ⟨X4, hX4⟩ : ∃ Y, X3 ++ decL ix = Y := ⟨_, rfl⟩
  have HX4 := hide hX4
  go_wp2_with fail
  refine (num_any ix _ p X3 (by omega) HP.out (by have := HL.out; omega)).mono ?_
  rintro e v4 ⟨rfl, hp_, hex_⟩
  rw [hX4] at hp_
  replace HP := hide hp_
  replace HE := hide (HE.out.trans hex_)
  replace HL : Hid (X4.length ≤ X.length + 12 + 18 + 4 + 64) := by show _ ≤ _; rw [← hX4, List.length_append]; have := HL.out; have := decL_len ix; omega
  clear hp_ hex_ hX4 k5
  have k7 := HE.out.cell hqp HC7.out
  obtain ⟨X5, hX5⟩ : ∃ Y, X4 ++ (if pm = true then strL ⟨#[32, 112, 101, 114, 109, 105, 116]⟩ else strL ⟨#[32, 100, 101, 110, 121]⟩) = Y := ⟨_, rfl⟩
  have HX5 := hide hX5
  go_wp2_with fail
  refine (pick_any _ p X4 pm ⟨#[32, 112, 101, 114, 109, 105, 116]⟩ ⟨#[32, 100, 101, 110, 121]⟩ HP.out (by have := HL.out; have : (strL ⟨#[32, 112, 101, 114, 109, 105, 116]⟩).length = 7 := rfl; have : (strL ⟨#[32, 100, 101, 110, 121]⟩).length = 5 := rfl; omega)).mono ?_
  rintro e v5 ⟨rfl, hp_, hex_⟩
  rw [hX5] at hp_
  replace HP := hide hp_
  replace HE := hide (HE.out.trans hex_)
  replace HL : Hid (X5.length ≤ X.length + 12 + 18 + 4 + 64 + 10) := by show _ ≤ _; rw [← hX5, List.length_append]; have := HL.out; have : (strL ⟨#[32, 112, 101, 114, 109, 105, 116]⟩).length = 7 := rfl; have : (strL ⟨#[32, 100, 101, 110, 121]⟩).length = 5 := rfl; split <;> omega
  clear hp_ hex_ hX5 k7
  obtain ⟨X6, hX6⟩ : ∃ Y, X5 ++ prefT pr ln = Y := ⟨_, rfl⟩
  have HX6 := hide hX6
  go_wp2_with fail
  refine (prefix_pr _ p X5 q o _ pr ln rfl rfl (by omega) (by omega) (HC.out.other HE.out hqp) (by omega) HP.out (by have := HL.out; omega)).mono ?_
  rintro e v6 ⟨rfl, hp_, hex_⟩
  rw [hX6] at hp_
  replace HP := hide hp_
  replace HE := hide (HE.out.trans hex_)
  replace HL : Hid (X6.length ≤ X.length + 12 + 18 + 4 + 64 + 10 + 267) := by show _ ≤ _; rw [← hX6, List.length_append]; have := HL.out; have := prefT_len pr ln; omega
  clear hp_ hex_ hX6
  obtain ⟨X7, hX7⟩ : ∃ Y, X6 ++ strL ⟨#[32, 99, 108, 97, 115, 115, 32]⟩ = Y := ⟨_, rfl⟩
  have HX7 := hide hX7
  go_wp2_with fail
  refine (str_any _ p X6 ⟨#[32, 99, 108, 97, 115, 115, 32]⟩ HP.out (by have := HL.out; have : (strL ⟨#[32, 99, 108, 97, 115, 115, 32]⟩).length = 7 := rfl; omega)).mono ?_
  rintro e v7 ⟨rfl, hp_, hex_⟩
  rw [hX7] at hp_
  replace HP := hide hp_
  replace HE := hide (HE.out.trans hex_)
  replace HL : Hid (X7.length ≤ X.length + 12 + 18 + 4 + 64 + 10 + 267 + 7) := by show _ ≤ _; rw [← hX7, List.length_append]; have := HL.out; have : (strL ⟨#[32, 99, 108, 97, 115, 115, 32]⟩).length = 7 := rfl; omega
  clear hp_ hex_ hX7
  have k6 := HE.out.cell hqp HC6.out
  obtain ⟨X8, hX8⟩ : ∃ Y, X7 ++ strL ⟨#[97, 110, 121]⟩ = Y := ⟨_, rfl⟩
  have HX8 := hide hX8
  go_wp2_with fail
  refine (str_any _ p X7 ⟨#[97, 110, 121]⟩ HP.out (by have := HL.out; have : (strL ⟨#[97, 110, 121]⟩).length = 3 := rfl; omega)).mono ?_
  rintro e v8 ⟨rfl, hp_, hex_⟩
  rw [hX8] at hp_
  replace HP := hide hp_
  replace HE := hide (HE.out.trans hex_)
  replace HL : Hid (X8.length ≤ X.length + 12 + 18 + 4 + 64 + 10 + 267 + 7 + 3) := by show _ ≤ _; rw [← hX8, List.length_append]; have := HL.out; have : (strL ⟨#[97, 110, 121]⟩).length = 3 := rfl; omega
  clear hp_ hex_ k6 hX8
  obtain ⟨X9, hX9⟩ : ∃ Y, X8 ++ strL ⟨#[10]⟩ = Y := ⟨_, rfl⟩
  have HX9 := hide hX9
  go_wp2_with fail
  refine (str_any _ p X8 ⟨#[10]⟩ HP.out (by have := HL.out; have : (strL ⟨#[10]⟩).length = 1 := rfl; omega)).mono ?_
  rintro e v9 ⟨rfl, hp_, hex_⟩
  rw [hX9] at hp_
  replace HP := hide hp_
  replace HE := hide (HE.out.trans hex_)
  replace HL : Hid (X9.length ≤ X.length + 12 + 18 + 4 + 64 + 10 + 267 + 7 + 3 + 1) := by show _ ≤ _; rw [← hX9, List.length_append]; have := HL.out; have : (strL ⟨#[10]⟩).length = 1 := rfl; omega
  clear hp_ hex_ hX9
  go_wp2
  go_end0
  refine ⟨rfl, ?_, HE.out⟩
  have e : X ++ chgT ⟨2, d, hp, pr, ln, ix, 16, pm, up⟩ = X9 := by
    rw [← HX9.out, ← HX8.out, ← HX7.out, ← HX6.out, ← HX5.out, ← HX4.out, ← HX3.out, ← HX2.out, ← HX1.out]
    simp only [chgT, Int.toNat_natCast, List.append_assoc, if_true, if_false, reduceCtorEq]
    all_goals simp
  rw [e]
  exact HP.out
set_option linter.unusedSimpArgs false in
set_option maxRecDepth 100000 in
set_option maxHeartbeats 8000000 in
theorem chg_insN (w : World) (p : Nat) (X : List Int) (q o : Nat) (d : Nat) (hd : d ≤ 15) (hp : Int) (pr ln : Nat) (hpr : pr ≤ 255) (hln : ln ≤ 8) (ix : Nat) (hix : ix ≤ 63) (cl : Nat) (hcl : cl ≤ 15) (pm up : Bool) (hc : CO w q o ⟨2, d, hp, pr, ln, ix, cl, pm, up⟩) (hq : q < p) (h : PR w p X) (hl : X.length + 2000 ≤ 1099511627776) :
    Calls Try.prog 40 #[.pointer (some ⟨p, 0, none⟩), .pointer (some ⟨q, o, none⟩)] w (PRPost w p (X ++ chgT ⟨2, d, hp, pr, ln, ix, cl, pm, up⟩)) := by
  have HP := hide h
  have HC := hide hc
  have HE : Hid (Ex (fun k => p ≤ k) w w) := Ex.refl _ _
  have HL : Hid (X.length ≤ X.length) := Nat.le_refl _
  have k0 := hc.c0
  have HC1 := hide hc.c1
  have HC2 := hide hc.c2
  have HC3 := hide hc.c3
  have HC4 := hide hc.c4
  have HC5 := hide hc.c5
  have HC6 := hide hc.c6
  have HC7 := hide hc.c7
  have HC8 := hide hc.c8
  simp only [] at k0 HC1 HC2 HC3 HC4 HC5 HC6 HC7 HC8
  have hqp : ¬ p ≤ q := by omega
  clear h hc
  go_enter Try.func40, Try.ntmps40
  obtain ⟨X1, hX1⟩ : ∃ Y, X ++ strL ⟨#[32, 32, 97, 99, 108, 32, 105, 110, 115, 101, 114, 116]⟩ = Y := ⟨_, rfl⟩
  have HX1 := hide hX1
  go_wp2_with fail
  refine (str_any _ p X ⟨#[32, 32, 97, 99, 108, 32, 105, 110, 115, 101, 114, 116]⟩ HP.out (by have := HL.out; have : (strL ⟨#[32, 32, 97, 99, 108, 32, 105, 110, 115, 101, 114, 116]⟩).length = 12 := rfl; omega)).mono ?_
  rintro e v1 ⟨rfl, hp_, hex_⟩
  rw [hX1] at hp_
  replace HP := hide hp_
  replace HE := hide (HE.out.trans hex_)
  replace HL : Hid (X1.length ≤ X.length + 12) := by show _ ≤ _; rw [← hX1, List.length_append]; have := HL.out; have : (strL ⟨#[32, 32, 97, 99, 108, 32, 105, 110, 115, 101, 114, 116]⟩).length = 12 := rfl; omega
  clear hp_ hex_ k0 hX1
  have k1 := HE.out.cell hqp HC1.out
  obtain ⟨X2, hX2⟩ : ∃ Y, X1 ++ devT d = Y := ⟨_, rfl⟩
  have HX2 := hide hX2
  go_wp2_with fail
  refine (dev_any _ p X1 d (by omega) HP.out (by have := HL.out; omega)).mono ?_
  rintro e v2 ⟨rfl, hp_, hex_⟩
  rw [hX2] at hp_
  replace HP := hide hp_
  replace HE := hide (HE.out.trans hex_)
  replace HL : Hid (X2.length ≤ X.length + 12 + 18) := by show _ ≤ _; rw [← hX2, List.length_append]; have := HL.out; have := devT_len d; omega
  clear hp_ hex_ hX2 k1
  obtain ⟨X3, hX3⟩ : ∃ Y, X2 ++ strL ⟨#[32, 97, 116, 32]⟩ = Y := ⟨_, rfl⟩
  have HX3 := hide hX3
  go_wp2_with fail
  refine (str_any _ p X2 ⟨#[32, 97, 116, 32]⟩ HP.out (by have := HL.out; have : (strL ⟨#[32, 97, 116, 32]⟩).length = 4 := rfl; omega)).mono ?_
  rintro e v3 ⟨rfl, hp_, hex_⟩
  rw [hX3] at hp_
  replace HP := hide hp_
  replace HE := hide (HE.out.trans hex_)
  replace HL : Hid (X3.length ≤ X.length + 12 + 18 + 4) := by show _ ≤ _; rw [← hX3, List.length_append]; have := HL.out; have : (strL ⟨#[32, 97, 116, 32]⟩).length = 4 := rfl; omega
  clear hp_ hex_ hX3
  have k5 := HE.out.cell hqp HC5.out
  obtain ⟨X4, hX4⟩ : ∃ Y, X3 ++ decL ix = Y := ⟨_, rfl⟩
  have HX4 := hide hX4
  go_wp2_with fail
  refine (num_any ix _ p X3 (by omega) HP.out (by have := HL.out; omega)).mono ?_
  rintro e v4 ⟨rfl, hp_, hex_⟩
  rw [hX4] at hp_
  replace HP := hide hp_
  replace HE := hide (HE.out.trans hex_)
  replace HL : Hid (X4.length ≤ X.length + 12 + 18 + 4 + 64) := by show _ ≤ _; rw [← hX4, List.length_append]; have := HL.out; have := decL_len ix; omega
  clear hp_ hex_ hX4 k5
  have k7 := HE.out.cell hqp HC7.out
  obtain ⟨X5, hX5⟩ : ∃ Y, X4 ++ (if pm = true then strL ⟨#[32, 112, 101, 114, 109, 105, 116]⟩ else strL ⟨#[32, 100, 101, 110, 121]⟩) = Y := ⟨_, rfl⟩
  have HX5 := hide hX5
  go_wp2_with fail
  refine (pick_any _ p X4 pm ⟨#[32, 112, 101, 114, 109, 105, 116]⟩ ⟨#[32, 100, 101, 110, 121]⟩ HP.out (by have := HL.out; have : (strL ⟨#[32, 112, 101, 114, 109, 105, 116]⟩).length = 7 := rfl; have : (strL ⟨#[32, 100, 101, 110, 121]⟩).length = 5 := rfl; omega)).mono ?_
  rintro e v5 ⟨rfl, hp_, hex_⟩
  rw [hX5] at hp_
  replace HP := hide hp_
  replace HE := hide (HE.out.trans hex_)
  replace HL : Hid (X5.length ≤ X.length + 12 + 18 + 4 + 64 + 10) := by show _ ≤ _; rw [← hX5, List.length_append]; have := HL.out; have : (strL ⟨#[32, 112, 101, 114, 109, 105, 116]⟩).length = 7 := rfl; have : (strL ⟨#[32, 100, 101, 110, 121]⟩).length = 5 := rfl; split <;> omega
  clear hp_ hex_ hX5 k7
  obtain ⟨X6, hX6⟩ : ∃ Y, X5 ++ prefT pr ln = Y := ⟨_, rfl⟩
  have HX6 := hide hX6
  go_wp2_with fail
  refine (prefix_pr _ p X5 q o _ pr ln rfl rfl (by omega) (by omega) (HC.out.other HE.out hqp) (by omega) HP.out (by have := HL.out; omega)).mono ?_
  rintro e v6 ⟨rfl, hp_, hex_⟩
  rw [hX6] at hp_
  replace HP := hide hp_
  replace HE := hide (HE.out.trans hex_)
  replace HL : Hid (X6.length ≤ X.length + 12 + 18 + 4 + 64 + 10 + 267) := by show _ ≤ _; rw [← hX6, List.length_append]; have := HL.out; have := prefT_len pr ln; omega
  clear hp_ hex_ hX6
  obtain ⟨X7, hX7⟩ : ∃ Y, X6 ++ strL ⟨#[32, 99, 108, 97, 115, 115, 32]⟩ = Y := ⟨_, rfl⟩
  have HX7 := hide hX7
  go_wp2_with fail
  refine (str_any _ p X6 ⟨#[32, 99, 108, 97, 115, 115, 32]⟩ HP.out (by have := HL.out; have : (strL ⟨#[32, 99, 108, 97, 115, 115, 32]⟩).length = 7 := rfl; omega)).mono ?_
  rintro e v7 ⟨rfl, hp_, hex_⟩
  rw [hX7] at hp_
  replace HP := hide hp_
  replace HE := hide (HE.out.trans hex_)
  replace HL : Hid (X7.length ≤ X.length + 12 + 18 + 4 + 64 + 10 + 267 + 7) := by show _ ≤ _; rw [← hX7, List.length_append]; have := HL.out; have : (strL ⟨#[32, 99, 108, 97, 115, 115, 32]⟩).length = 7 := rfl; omega
  clear hp_ hex_ hX7
  have k6 := HE.out.cell hqp HC6.out
  have hc16 : ((cl : Int) == 16) = false := by simp only [beq_eq_false_iff_ne]; omega
  obtain ⟨X8, hX8⟩ : ∃ Y, X7 ++ decL cl = Y := ⟨_, rfl⟩
  have HX8 := hide hX8
  go_wp2_with fail
  refine (num_any cl _ p X7 (by omega) HP.out (by have := HL.out; omega)).mono ?_
  rintro e v8 ⟨rfl, hp_, hex_⟩
  rw [hX8] at hp_
  replace HP := hide hp_
  replace HE := hide (HE.out.trans hex_)
  replace HL : Hid (X8.length ≤ X.length + 12 + 18 + 4 + 64 + 10 + 267 + 7 + 16) := by show _ ≤ _; rw [← hX8, List.length_append]; have := HL.out; have := decL_len cl; omega
  clear hp_ hex_ hX8 k6
  obtain ⟨X9, hX9⟩ : ∃ Y, X8 ++ strL ⟨#[10]⟩ = Y := ⟨_, rfl⟩
  have HX9 := hide hX9
  go_wp2_with fail
  refine (str_any _ p X8 ⟨#[10]⟩ HP.out (by have := HL.out; have : (strL ⟨#[10]⟩).length = 1 := rfl; omega)).mono ?_
  rintro e v9 ⟨rfl, hp_, hex_⟩
  rw [hX9] at hp_
  replace HP := hide hp_
  replace HE := hide (HE.out.trans hex_)
  replace HL : Hid (X9.length ≤ X.length + 12 + 18 + 4 + 64 + 10 + 267 + 7 + 16 + 1) := by show _ ≤ _; rw [← hX9, List.length_append]; have := HL.out; have : (strL ⟨#[10]⟩).length = 1 := rfl; omega
  clear hp_ hex_ hX9
  go_wp2
  go_end0
  refine ⟨rfl, ?_, HE.out⟩
  have e : X ++ chgT ⟨2, d, hp, pr, ln, ix, cl, pm, up⟩ = X9 := by
    rw [← HX9.out, ← HX8.out, ← HX7.out, ← HX6.out, ← HX5.out, ← HX4.out, ← HX3.out, ← HX2.out, ← HX1.out]
    have hany : ¬ (cl : Int) = 16 := by omega
    simp only [chgT, Int.toNat_natCast, List.append_assoc, if_true, if_false, reduceCtorEq, hany]
    all_goals simp
  rw [e]
  exact HP.out
theorem change_pr (w : World) (p : Nat) (X : List Int) (q o : Nat) (c : Chg) (hg : GoodC c) (hc : CO w q o c) (hq : q < p) (h : PR w p X) (hl : X.length + 2000 ≤ 1099511627776) :
    Calls Try.prog 40 #[.pointer (some ⟨p, 0, none⟩), .pointer (some ⟨q, o, none⟩)] w (PRPost w p (X ++ chgT c)) := by
  obtain ⟨kd, dv, hp, pr, ln, ix, cl, pm, up⟩ := c
  obtain ⟨hd, hk⟩ := hg
  simp only [] at hd hk
  obtain ⟨d, rfl⟩ : ∃ d : Nat, dv = d := ⟨dv.toNat, by omega⟩
  have hd' : d ≤ 15 := by omega
  rcases hk with ⟨rfl, hP, hH, _⟩ | ⟨rfl, hP, _⟩ | ⟨rfl, hP, _, hix, hcl, _⟩ | ⟨rfl, _, _, _, hix, _⟩ | ⟨rfl, _, _, hH, _⟩ | ⟨rfl, _⟩
  · obtain ⟨h1, h2, _⟩ := hP
    obtain ⟨a, rfl⟩ : ∃ d : Nat, pr = d := ⟨pr.toNat, by omega⟩
    obtain ⟨l, rfl⟩ : ∃ d : Nat, ln = d := ⟨ln.toNat, by omega⟩
    obtain ⟨e, rfl⟩ : ∃ d : Nat, hp = d := ⟨hp.toNat, by omega⟩
    exact chg_add w p X q o d hd' e (by omega) a l (by omega) (by omega) ix cl pm up hc hq h hl
  · obtain ⟨h1, h2, _⟩ := hP
    obtain ⟨a, rfl⟩ : ∃ d : Nat, pr = d := ⟨pr.toNat, by omega⟩
    obtain ⟨l, rfl⟩ : ∃ d : Nat, ln = d := ⟨ln.toNat, by omega⟩
    exact chg_del w p X q o d hd' hp a l (by omega) (by omega) ix cl pm up hc hq h hl
  · obtain ⟨h1, h2, _⟩ := hP
    obtain ⟨a, rfl⟩ : ∃ d : Nat, pr = d := ⟨pr.toNat, by omega⟩
    obtain ⟨l, rfl⟩ : ∃ d : Nat, ln = d := ⟨ln.toNat, by omega⟩
    obtain ⟨i, rfl⟩ : ∃ d : Nat, ix = d := ⟨ix.toNat, by omega⟩
    by_cases h16 : cl = 16
    · subst h16
      exact chg_insA w p X q o d hd' hp a l (by omega) (by omega) i (by omega) pm up hc hq h hl
    · obtain ⟨e, rfl⟩ : ∃ d : Nat, cl = d := ⟨cl.toNat, by omega⟩
      exact chg_insN w p X q o d hd' hp a l (by omega) (by omega) i (by omega) e (by omega) pm up hc hq h hl
  · obtain ⟨i, rfl⟩ : ∃ d : Nat, ix = d := ⟨ix.toNat, by omega⟩
    exact chg_rem w p X q o d hd' hp pr ln i (by omega) cl pm up hc hq h hl
  · obtain ⟨e, rfl⟩ : ∃ d : Nat, hp = d := ⟨hp.toNat, by omega⟩
    exact chg_link w p X q o d hd' e (by omega) pr ln ix cl pm up hc hq h hl
  · exact chg_if w p X q o d hd' hp pr ln ix cl pm up hc hq h hl
/-- Print, plain. -/
def printT (id : Int) (C : List Chg) : List Int := strL ⟨#[98, 97, 116, 99, 104, 32]⟩ ++ (decL id.toNat ++ (strL ⟨#[32, 123, 10]⟩ ++ (C.flatMap chgT ++ strL ⟨#[125, 10]⟩)))
end Go.Proofs.Qxb6500778a
