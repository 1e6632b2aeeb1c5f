import Derived.Test.Qxb6500773aGreatMe
namespace Go.Proofs.Qxb6500773aGreat
open Go.RowKit

/-- lists of numbers in the order of words -/
def cmP : List Int → List Int → Int
  | [], [] => 0
  | [], _ :: _ => -1
  | _ :: _, [] => 1
  | x :: C, y :: D => if bfP x y = true then -1 else if bfP y x = true then 1 else cmP C D
def DrPost (w : World) (v : Value) (e : Ending) (w' : World) : Prop := e = .returned v ∧ ∃ m, w' = w.drewN m
theorem IL.tl {w : World} {g o : Nat} {x : Int} {C : List Int} (h : IL w (some ⟨g, o, none⟩) (x :: C)) : IL w (some ⟨g, o + 1, none⟩) C := fun j y hy => by
  obtain ⟨g', o', e, hc⟩ := h (j + 1) y (by rw [List.getElem?_cons_succ]; exact hy)
  cases e
  exact ⟨g, o + 1, rfl, by rw [Nat.add_assoc, Nat.add_comm 1 j]; exact hc⟩
theorem IL.tlc {w : World} {g o c : Nat} {x : Int} {C : List Int} (h : IL w (some ⟨g, o, none⟩) (x :: C)) (hc : (x :: C).length ≤ c) : IL w (if c = 1 then some ⟨g, o, none⟩ else some ⟨g, o + 1, none⟩) C := by
  split
  · subst c
    cases C with
    | nil => exact fun j y hy => by simp at hy
    | cons z C => simp at hc
  · exact h.tl
theorem IL.dr {w : World} {a : Option Addr} {C : List Int} (h : IL w a C) (n : Nat) : IL (w.drewN n) a C := h.keep ((Ex.refl (fun _ => False) w).drewN n) (fun _ _ _ z => z)
set_option linter.unusedSimpArgs false in
set_option maxRecDepth 100000 in
set_option maxHeartbeats 8000000 in
/-- cnfm.Compare -/
theorem compareM_any : ∀ (C D : List Int) (w : World) (ac : Option Addr) (cc : Nat) (ad : Option Addr) (cd : Nat), IL w ac C → IL w ad D → C.length ≤ cc → D.length ≤ cd → cc ≤ maxLen → cd ≤ maxLen →
    (∀ x ∈ C, -9223372036854775807 ≤ x ∧ x ≤ 9223372036854775807) → (∀ x ∈ D, -9223372036854775807 ≤ x ∧ x ≤ 9223372036854775807) →
    Calls Tryz.prog 93 #[.slice ac C.length cc, .slice ad D.length cd] w (DrPost w (.int .i64 (cmP C D)))
  | [], [], w, ac, cc, ad, cd, _, _, _, _, _, _, _, _ => by
    unfold cmP
    simp only [List.length_nil]
    go_enter Tryz.func93, Tryz.ntmps93
    go_wp2
    go_ret
    exact ⟨rfl, 0, rfl⟩
  | [], y :: D, w, ac, cc, ad, cd, _, _, _, _, _, hcm, _, _ => by
    unfold cmP
    simp only [List.length_nil]
    obtain ⟨n, hn⟩ : ∃ n, (y :: D).length = n := ⟨_, rfl⟩
    have h0 : 0 < n := by rw [← hn]; simp
    rw [hn]
    have hb : ((n : Int) == 0) = false := by simp; omega
    clear hn
    go_enter Tryz.func93, Tryz.ntmps93
    go_wp2
    go_ret
    exact ⟨rfl, 0, rfl⟩
  | x :: C, [], w, ac, cc, ad, cd, _, _, _, _, hcm, _, _, _ => by
    unfold cmP
    simp only [List.length_nil]
    obtain ⟨n, hn⟩ : ∃ n, (x :: C).length = n := ⟨_, rfl⟩
    have h0 : 0 < n := by rw [← hn]; simp
    rw [hn]
    have hb : ((n : Int) == 0) = false := by simp; omega
    clear hn
    go_enter Tryz.func93, Tryz.ntmps93
    go_wp2
    go_ret
    exact ⟨rfl, 0, rfl⟩
  | x :: C, y :: D, w, ac, cc, ad, cd, hC, hD, hlc, hld, hcm, hdm, hbC, hbD => by
    obtain ⟨g1, o1, ea1, x0⟩ := hC 0 x rfl
    obtain ⟨g2, o2, ea2, y0⟩ := hD 0 y rfl
    subst ea1 ea2
    have hx := hbC x (by simp)
    have hy := hbD y (by simp)
    have HB1 : Hid (∀ wz, Calls Tryz.prog 135 #[.int .i64 x, .int .i64 y] wz fun e w' => e = .returned (.bool (bfP x y)) ∧ w' = wz) := fun wz => before_any wz x y hx hy
    have HB2 : Hid (∀ wz, Calls Tryz.prog 135 #[.int .i64 y, .int .i64 x] wz fun e w' => e = .returned (.bool (bfP y x)) ∧ w' = wz) := fun wz => before_any wz y x hy hx
    have HREC : Hid (∀ wz, Ex (fun _ => False) w wz → Calls Tryz.prog 93 #[.slice (if cc = 1 then some ⟨g1, o1, none⟩ else some ⟨g1, o1 + 1, none⟩) C.length (cc - 1), .slice (if cd = 1 then some ⟨g2, o2, none⟩ else some ⟨g2, o2 + 1, none⟩) D.length (cd - 1)] wz (DrPost wz (.int .i64 (cmP C D)))) :=
      fun wz hz => compareM_any C D wz _ _ _ _ (hC.tlc hlc |>.keep hz (fun _ _ _ z => z)) (hD.tlc hld |>.keep hz (fun _ _ _ z => z)) (by simp at hlc; omega) (by simp at hld; omega) (by omega) (by omega) (fun z hz => hbC z (by simp [hz])) (fun z hz => hbD z (by simp [hz]))
    have HPP : Hid (cmP (x :: C) (y :: D) = if bfP x y = true then -1 else if bfP y x = true then 1 else cmP C D) := rfl
    generalize cmP (x :: C) (y :: D) = R at *
    generalize cmP C D = R1 at *
    generalize bfP x y = b1 at *
    generalize bfP y x = b2 at *
    obtain ⟨n, hn⟩ : ∃ n, C.length = n := ⟨_, rfl⟩
    obtain ⟨q, hq⟩ : ∃ q, D.length = q := ⟨_, rfl⟩
    rw [List.length_cons, hn] at hlc ⊢
    rw [List.length_cons, hq] at hld ⊢
    rw [hn, hq] at HREC
    clear hn hq hC hD hbC hbD hx hy
    unfold maxLen at hcm hdm
    rw [Nat.add_zero] at x0 y0
    have t1 : (((n + 1 : Nat) : Int) == 0) = false := by simp; omega
    have t2 : (((q + 1 : Nat) : Int) == 0) = false := by simp; omega
    have t3 : (0 : Int) < ((n + 1 : Nat) : Int) := by omega
    have t4 : (0 : Int) < ((q + 1 : Nat) : Int) := by omega
    have t5 : (1 : Int) ≤ ((n + 1 : Nat) : Int) := by omega
    have t6 : (1 : Int) ≤ ((q + 1 : Nat) : Int) := by omega
    go_enter Tryz.func93, Tryz.ntmps93
    go_upto_region 7 with fail
    go_quiet (first | (go_at_call 135; refine Calls.quiet_of_same (HB1.out _)))
    rename_i nq
    have HW1 : Hid (∃ m, w.drewN nq = w.drewN m) := ⟨_, rfl⟩
    have HE1 : Hid (Ex (fun _ => False) w (w.drewN nq)) := (Ex.refl _ w).drewN nq
    replace x0 := HE1.out.cell (fun z => z) x0
    replace y0 := HE1.out.cell (fun z => z) y0
    generalize w.drewN nq = w1 at *
    cases b1
    · rw [if_neg (by simp)] at HPP
      go_upto_region 9 with fail
      go_quiet (first | (go_at_call 135; refine Calls.quiet_of_same (HB2.out _)))
      rename Nat => nq2
      have HW2 : Hid (∃ m, w1.drewN nq2 = w.drewN m) := by obtain ⟨m, hm⟩ := HW1.out; exact ⟨m + nq2, by rw [hm, World.drewN_drewN]⟩
      have HE2 : Hid (Ex (fun _ => False) w (w1.drewN nq2)) := HE1.out.drewN nq2
      clear HW1 HE1 x0 y0
      generalize w1.drewN nq2 = w2 at *
      cases b2
      · rw [if_neg (by simp)] at HPP
        go_upto_region 11 with fail
        go_quiet (first | (go_at_call 93; exact Calls.quiet_of (HREC.out _ (HE2.out.drewN _))))
        rename Nat => nq3
        have HW3 : Hid (∃ m, w2.drewN nq3 = w.drewN m) := by obtain ⟨m, hm⟩ := HW2.out; exact ⟨m + nq3, by rw [hm, World.drewN_drewN]⟩
        go_wp2
        all_goals exact bodyPost_ret (v := .int .i64 R1) (by simp [results, Tryz.results93, go_sem]) rfl ⟨by rw [HPP.out], HW3.out⟩
      · rw [if_pos rfl] at HPP
        go_wp2
        exact bodyPost_ret (v := .int .i64 1) (by simp [results, Tryz.results93, go_sem]) rfl ⟨by rw [HPP.out], HW2.out⟩
    · rw [if_pos rfl] at HPP
      go_wp2
      exact bodyPost_ret (v := .int .i64 (-1)) (by simp [results, Tryz.results93, go_sem]) rfl ⟨by rw [HPP.out], HW1.out⟩
termination_by C => C.length
end Go.Proofs.Qxb6500773aGreat
