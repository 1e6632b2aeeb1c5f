import Derived.Test.Qxb6500778aP1
namespace Go.Proofs.Qxb6500778a
open Go.RowKit

def devT (v : Nat) : List Int := [32, 114] ++ decL v
theorem devT_len (v : Nat) : (devT v).length ≤ v + 3 := by
  have := decL_len v
  unfold devT
  rw [List.length_append]
  simp only [List.length_cons, List.length_nil]
  omega
def prefT (p l : Nat) : List Int := [32] ++ (decL p ++ ([47] ++ decL l))
theorem prefT_len (p l : Nat) : (prefT p l).length ≤ p + l + 4 := by
  have := decL_len p
  have := decL_len l
  unfold prefT
  simp only [List.length_append, List.length_cons, List.length_nil]
  omega
set_option maxRecDepth 100000 in
set_option maxHeartbeats 8000000 in
/-- printer.dev -/
theorem dev_any (w : World) (p : Nat) (X : List Int) (v : Nat) (hv : v ≤ 15) (h : PR w p X) (hl : X.length + 100 ≤ 1099511627776) :
    Calls Try.prog 62 #[.pointer (some ⟨p, 0, none⟩), .int .i64 (v : Int)] w (PRPost w p (X ++ devT v)) := by
  have HP := hide h
  have HE : Hid (Ex (fun k => p ≤ k) w w) := Ex.refl _ _
  have HL : Hid (X.length ≤ X.length) := Nat.le_refl _
  clear h
  go_enter Try.func62, Try.ntmps62
  obtain ⟨X1, hX1⟩ : ∃ Y, X ++ strL ⟨#[32, 114]⟩ = Y := ⟨_, rfl⟩
  have HX1 := hide hX1
  go_wp2_with fail
  refine (str_any _ p X ⟨#[32, 114]⟩ HP.out (by have := HL.out; have : (strL ⟨#[32, 114]⟩).length = 2 := rfl; omega)).mono ?_
  rintro e v1 ⟨rfl, hp_, hex_⟩
  rw [hX1] at hp_
  replace HP := hide hp_
  replace HE := hide (HE.out.trans hex_)
  replace HL : Hid (X1.length ≤ X.length + 2) := by show _ ≤ _; rw [← hX1, List.length_append]; have := HL.out; have : (strL ⟨#[32, 114]⟩).length = 2 := rfl; omega
  clear hp_ hex_ hX1
  obtain ⟨X2, hX2⟩ : ∃ Y, X1 ++ decL v = Y := ⟨_, rfl⟩
  have HX2 := hide hX2
  go_wp2_with fail
  refine (num_any v _ p X1 (by omega) HP.out (by have := HL.out; omega)).mono ?_
  rintro e v2 ⟨rfl, hp_, hex_⟩
  rw [hX2] at hp_
  replace HP := hide hp_
  replace HE := hide (HE.out.trans hex_)
  replace HL : Hid (X2.length ≤ X.length + 2 + 16) := by show _ ≤ _; rw [← hX2, List.length_append]; have := HL.out; have := decL_len v; omega
  clear hp_ hex_ hX2
  go_wp2
  go_end0
  refine ⟨rfl, ?_, HE.out⟩
  have e : X ++ devT v = X2 := by unfold devT; rw [← HX2.out, ← HX1.out, List.append_assoc]; rfl
  rw [e]
  exact HP.out
set_option maxRecDepth 100000 in
set_option maxHeartbeats 8000000 in
/-- printer.prefix -/
theorem prefix_pr (w : World) (p : Nat) (X : List Int) (q o : Nat) (c : Chg) (pr ln : Nat) (h1 : c.pr = pr) (h2 : c.ln = ln) (hp1 : pr ≤ 255) (hl1 : ln ≤ 8) (hc : CO w q o c) (hq : q < p) (h : PR w p X) (hl : X.length + 400 ≤ 1099511627776) :
    Calls Try.prog 63 #[.pointer (some ⟨p, 0, none⟩), .pointer (some ⟨q, o, none⟩)] w (PRPost w p (X ++ prefT pr ln)) := by
  have HP := hide h
  have HE : Hid (Ex (fun k => p ≤ k) w w) := Ex.refl _ _
  have HL : Hid (X.length ≤ X.length) := Nat.le_refl _
  have HC3 := hide hc.c3
  have HC4 := hide hc.c4
  rw [h1] at HC3
  rw [h2] at HC4
  have hqp : ¬ p ≤ q := by omega
  clear h hc h1 h2
  go_enter Try.func63, Try.ntmps63
  obtain ⟨X1, hX1⟩ : ∃ Y, X ++ strL ⟨#[32]⟩ = Y := ⟨_, rfl⟩
  have HX1 := hide hX1
  go_wp2_with fail
  refine (str_any _ p X ⟨#[32]⟩ HP.out (by have := HL.out; have : (strL ⟨#[32]⟩).length = 1 := rfl; omega)).mono ?_
  rintro e v1 ⟨rfl, hp_, hex_⟩
  rw [hX1] at hp_
  replace HP := hide hp_
  replace HE := hide (HE.out.trans hex_)
  replace HL : Hid (X1.length ≤ X.length + 1) := by show _ ≤ _; rw [← hX1, List.length_append]; have := HL.out; have : (strL ⟨#[32]⟩).length = 1 := rfl; omega
  clear hp_ hex_ hX1
  have k3 := HE.out.cell hqp HC3.out
  obtain ⟨X2, hX2⟩ : ∃ Y, X1 ++ decL pr = Y := ⟨_, rfl⟩
  have HX2 := hide hX2
  go_wp2_with fail
  refine (num_any pr _ p X1 (by omega) HP.out (by have := HL.out; omega)).mono ?_
  rintro e v2 ⟨rfl, hp_, hex_⟩
  rw [hX2] at hp_
  replace HP := hide hp_
  replace HE := hide (HE.out.trans hex_)
  replace HL : Hid (X2.length ≤ X.length + 1 + 256) := by show _ ≤ _; rw [← hX2, List.length_append]; have := HL.out; have := decL_len pr; omega
  clear hp_ hex_ hX2 k3
  obtain ⟨X3, hX3⟩ : ∃ Y, X2 ++ strL ⟨#[47]⟩ = Y := ⟨_, rfl⟩
  have HX3 := hide hX3
  go_wp2_with fail
  refine (str_any _ p X2 ⟨#[47]⟩ HP.out (by have := HL.out; have : (strL ⟨#[47]⟩).length = 1 := rfl; omega)).mono ?_
  rintro e v3 ⟨rfl, hp_, hex_⟩
  rw [hX3] at hp_
  replace HP := hide hp_
  replace HE := hide (HE.out.trans hex_)
  replace HL : Hid (X3.length ≤ X.length + 1 + 256 + 1) := by show _ ≤ _; rw [← hX3, List.length_append]; have := HL.out; have : (strL ⟨#[47]⟩).length = 1 := rfl; omega
  clear hp_ hex_ hX3
  have k4 := HE.out.cell hqp HC4.out
  obtain ⟨X4, hX4⟩ : ∃ Y, X3 ++ decL ln = Y := ⟨_, rfl⟩
  have HX4 := hide hX4
  go_wp2_with fail
  refine (num_any ln _ p X3 (by omega) HP.out (by have := HL.out; omega)).mono ?_
  rintro e v4 ⟨rfl, hp_, hex_⟩
  rw [hX4] at hp_
  replace HP := hide hp_
  replace HE := hide (HE.out.trans hex_)
  replace HL : Hid (X4.length ≤ X.length + 1 + 256 + 1 + 9) := by show _ ≤ _; rw [← hX4, List.length_append]; have := HL.out; have := decL_len ln; omega
  clear hp_ hex_ hX4 k4
  go_wp2
  go_end0
  refine ⟨rfl, ?_, HE.out⟩
  have e : X ++ prefT pr ln = X4 := by unfold prefT; rw [← HX4.out, ← HX3.out, ← HX2.out, ← HX1.out]; simp only [List.append_assoc]; rfl
  rw [e]
  exact HP.out
set_option maxRecDepth 100000 in
set_option maxHeartbeats 8000000 in
/-- printer.pick -/
theorem pick_any (w : World) (p : Nat) (X : List Int) (b : Bool) (y z : ByteArray) (h : PR w p X) (hl : X.length + (strL y).length + (strL z).length ≤ 1099511627776) :
    Calls Try.prog 64 #[.pointer (some ⟨p, 0, none⟩), .bool b, .string y, .string z] w (PRPost w p (X ++ (if b = true then strL y else strL z))) := by
  have HP := hide h
  have HY := hide (str_any w p X y h (by omega))
  have HZ := hide (str_any w p X z h (by omega))
  clear h
  cases b
  · rw [if_neg (by decide)]
    go_enter Try.func64, Try.ntmps64
    go_wp2_with fail
    refine HZ.out.mono ?_
    rintro e w1 ⟨rfl, h1, h2⟩
    have H1 := hide h1
    have H2 := hide h2
    clear h1 h2 HY HZ
    go_wp2
    go_end0
    exact ⟨rfl, H1.out, H2.out⟩
  · rw [if_pos rfl]
    go_enter Try.func64, Try.ntmps64
    go_wp2_with fail
    refine HY.out.mono ?_
    rintro e w1 ⟨rfl, h1, h2⟩
    have H1 := hide h1
    have H2 := hide h2
    clear h1 h2 HY HZ
    go_wp2
    go_end0
    exact ⟨rfl, H1.out, H2.out⟩
end Go.Proofs.Qxb6500778a
