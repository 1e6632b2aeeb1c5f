import Derived.Test.Qxb6500774aKb
import Derived.Test.Qxb6500774aLx9
namespace Go.Proofs.Qxb6500774a
open Go.RowKit
set_option linter.unusedVariables false
set_option linter.unusedSimpArgs false
variable {R : Nat → Option Value}

/-! ### Punctuation marks -/
def twoM (c d : Int) : Bool := (d == 61 && (c == 58 || c == 60 || c == 62)) || (d == 62 && (c == 61 || c == 60)) || (d == 46 && c == 46)
def oneM (c : Int) : Bool := c == 59 || c == 58 || c == 44 || c == 46 || c == 40 || c == 41 || c == 91 || c == 93 || c == 61 || c == 60 || c == 62 || c == 43 || c == 45 || c == 42 || c == 47
def mkP (c d : Int) : List Int := if twoM c d = true then [c, d] else if oneM c = true then [c] else []
theorem one_iff (c : Int) : oneM c = true ↔ (c = 59 ∨ c = 58 ∨ c = 44 ∨ c = 46 ∨ c = 40 ∨ c = 41 ∨ c = 91 ∨ c = 93 ∨ c = 61 ∨ c = 60 ∨ c = 62 ∨ c = 43 ∨ c = 45 ∨ c = 42 ∨ c = 47) := by
  unfold oneM
  simp only [Bool.or_eq_true, beq_iff_eq, or_assoc]
def MkPost (R : Nat → Option Value) (w : World) (p : Nat) (a : Option Addr) (cp : Nat) (s : List Int) (o : Nat) (l : Int) (b : Nat) (m : List Int) (e : Ending) (w' : World) : Prop := e = .returned (.string (strOfNums m)) ∧ Ex (fun k => k = p) w w' ∧ Lx R w' p a cp s (o + m.length) l b
set_option linter.unusedSimpArgs false in
set_option maxRecDepth 100000 in
set_option maxHeartbeats 16000000 in
/-- lexer.mark -/
theorem markK_any (w : World) (p : Nat) (a : Option Addr) (cp : Nat) (s : List Int) (o : Nat) (l : Int) (bl : Nat) (h : Lx R w p a cp s o l bl) (hl : s.length ≤ 1099511627776) (c d : Int) (hc : s[o]? = some c) (hd : byP s ((o + 1 : Nat) : Int) = d) :
    Calls Try.prog 90 #[.pointer (some ⟨p, 0, none⟩)] w (MkPost R w p a cp s o l bl (mkP c d)) := by
  obtain ⟨M, hM⟩ : ∃ m, mkP c d = m := ⟨_, rfl⟩
  have HM := hide hM
  rw [hM]
  have hlt : o < s.length := (List.getElem?_eq_some_iff.1 hc).1
  have hki : (o : Int) < (s.length : Int) := by omega
  obtain ⟨g, off, ha, cx⟩ := h.src o _ hc
  subst ha
  have c0 := h.c0
  have c1 := h.c1
  have HX := hide h
  have hw1 : IntKind.i64.wrap ((o : Int) + 1) = ((o + 1 : Nat) : Int) := by rw [IntKind.wrap_i64]; omega
  have hw2 : IntKind.i64.wrap ((o : Int) + 2) = ((o + 2 : Nat) : Int) := by rw [IntKind.wrap_i64]; omega
  have HB : ∀ m, Hid (Calls Try.prog 91 #[.pointer (some ⟨p, 0, none⟩), .int .i64 ((o + 1 : Nat) : Int)] (w.drewN m) fun e w' => e = .returned (.int .u8 d) ∧ w' = w.drewN m) := fun m => by
    have hx := HX.out.below (below_dn w m w.heap.size)
    have := byteAt_any _ _ _ _ s (o + 1) hx.src hx.c0
    rw [hd] at this
    exact this
  clear hd hc h hM
  go_enter Try.func90, Try.ntmps90
  go_wp2_with fail
  go_quiet (first | (go_at_call 91; refine Calls.quiet_of_same (HB _).out))
  have HX2 := hide (HX.out.below (below_dn w nq w.heap.size))
  have HE2 : Hid (Ex (fun k => k = p) w (w.drewN nq)) := (Ex.refl _ _).drewN nq
  generalize w.drewN nq = w2 at *
  clear HX c0 c1 cx HB
  go_upto_region 2 with fail
  obtain ⟨tb, htb⟩ : ∃ b, twoM c d = b := ⟨_, rfl⟩
  have HTB := hide htb
  clear htb
  go_cut [55] (fun s55 wx => s55 = .bool tb ∧ w2 = wx)
  case first =>
    clear HM HX2 HE2
    rcases (show d = 61 ∨ d = 62 ∨ d = 46 ∨ (d ≠ 61 ∧ d ≠ 62 ∧ d ≠ 46) by omega) with rfl | rfl | rfl | ⟨z1, z2, z3⟩
    · rcases (show c = 58 ∨ c = 60 ∨ c = 62 ∨ (c ≠ 58 ∧ c ≠ 60 ∧ c ≠ 62) by omega) with rfl | rfl | rfl | ⟨y1, y2, y3⟩
      · have e : tb = true := HTB.out.symm.trans rfl
        subst e
        go_wp2
        go_meet
        exact ⟨rfl, rfl⟩
      · have e : tb = true := HTB.out.symm.trans rfl
        subst e
        go_wp2
        go_meet
        exact ⟨rfl, rfl⟩
      · have e : tb = true := HTB.out.symm.trans rfl
        subst e
        go_wp2
        go_meet
        exact ⟨rfl, rfl⟩
      · have b1 : (c == 58) = false := by simpa using y1
        have b2 : (c == 60) = false := by simpa using y2
        have b3 : (c == 62) = false := by simpa using y3
        have e : tb = false := by rw [← HTB.out]; unfold twoM; rw [b1, b2, b3]; rfl
        subst e
        go_wp2
        go_meet
        exact ⟨rfl, rfl⟩
    · rcases (show c = 61 ∨ c = 60 ∨ (c ≠ 61 ∧ c ≠ 60) by omega) with rfl | rfl | ⟨y1, y2⟩
      · have e : tb = true := HTB.out.symm.trans rfl
        subst e
        go_wp2
        go_meet
        exact ⟨rfl, rfl⟩
      · have e : tb = true := HTB.out.symm.trans rfl
        subst e
        go_wp2
        go_meet
        exact ⟨rfl, rfl⟩
      · have b1 : (c == 61) = false := by simpa using y1
        have b2 : (c == 60) = false := by simpa using y2
        have e : tb = false := by rw [← HTB.out]; unfold twoM; rw [b1, b2]; rfl
        subst e
        go_wp2
        go_meet
        exact ⟨rfl, rfl⟩
    · rcases (show c = 46 ∨ c ≠ 46 by omega) with rfl | y1
      · have e : tb = true := HTB.out.symm.trans rfl
        subst e
        go_wp2
        go_meet
        exact ⟨rfl, rfl⟩
      · have b1 : (c == 46) = false := by simpa using y1
        have e : tb = false := by rw [← HTB.out]; unfold twoM; rw [b1]; rfl
        subst e
        go_wp2
        go_meet
        exact ⟨rfl, rfl⟩
    · have b1 : (d == 61) = false := by simpa using z1
      have b2 : (d == 62) = false := by simpa using z2
      have b3 : (d == 46) = false := by simpa using z3
      have e : tb = false := by rw [← HTB.out]; unfold twoM; rw [b1, b2, b3]; rfl
      subst e
      go_wp2
      go_meet
      exact ⟨rfl, rfl⟩
  obtain ⟨rfl, rfl⟩ := hcut
  have c1 := HX2.out.c1
  have f1 := HX2.out.f1
  cases tb
  · by_cases h1 : oneM c = true
    · have HMe : Hid (M = [c]) := by show _ = _; rw [← HM.out]; unfold mkP; rw [if_neg (by rw [HTB.out]; decide), if_pos h1]
      have hx3 := HX2.out.off (o + 1)
      have hE3 : Ex (fun k => k = p) w (w2.setCell ⟨p, 1, none⟩ (.int .i64 ((o + 1 : Nat) : Int))) := HE2.out.set rfl _
      rw [show ((o + 1 : Nat) : Int) = (o : Int) + 1 by omega] at hx3 hE3
      have HFN : Hid (MkPost R w p (some ⟨g, off, none⟩) cp s o l bl M (.returned (.string (strOfNums [c]))) ((w2.setCell ⟨p, 1, none⟩ (.int .i64 ((o : Int) + 1))).alloc (.cells #[.int .u8 c] 5))) := by
        rw [HMe.out]
        exact ⟨rfl, hE3.alloc _, hx3.below (be1 _ (.cells #[.int .u8 c] 5))⟩
      have hcv := conv1 (w2.setCell ⟨p, 1, none⟩ (.int .i64 ((o : Int) + 1))) w2.heap.size (by simp) c
      clear hx3 hE3 HX2 HE2 HMe HM HTB
      rw [one_iff] at h1
      rcases h1 with rfl | rfl | rfl | rfl | rfl | rfl | rfl | rfl | rfl | rfl | rfl | rfl | rfl | rfl | rfl
      all_goals go_wp2
      all_goals go_ret
      all_goals exact HFN.out
    · have HMe : Hid (M = []) := by show _ = _; rw [← HM.out]; unfold mkP; rw [if_neg (by rw [HTB.out]; decide), if_neg h1]
      have HFN : Hid (MkPost R w p (some ⟨g, off, none⟩) cp s o l bl M (.returned (.string ⟨#[]⟩)) w2) := by
        rw [HMe.out]
        exact ⟨rfl, HE2.out, HX2.out⟩
      rw [one_iff] at h1
      have b59 : (c == 59) = false := by simp; omega
      have b58 : (c == 58) = false := by simp; omega
      have b44 : (c == 44) = false := by simp; omega
      have b46 : (c == 46) = false := by simp; omega
      have b40 : (c == 40) = false := by simp; omega
      have b41 : (c == 41) = false := by simp; omega
      have b91 : (c == 91) = false := by simp; omega
      have b93 : (c == 93) = false := by simp; omega
      have b61 : (c == 61) = false := by simp; omega
      have b60 : (c == 60) = false := by simp; omega
      have b62 : (c == 62) = false := by simp; omega
      have b43 : (c == 43) = false := by simp; omega
      have b45 : (c == 45) = false := by simp; omega
      have b42 : (c == 42) = false := by simp; omega
      have b47 : (c == 47) = false := by simp; omega
      clear h1 HX2 HE2 HMe HM HTB
      go_wp2
      go_ret
      exact HFN.out
  · have HMe : Hid (M = [c, d]) := by show _ = _; rw [← HM.out]; unfold mkP; rw [if_pos HTB.out]
    have hx3 := HX2.out.off (o + 2)
    have hE3 : Ex (fun k => k = p) w (w2.setCell ⟨p, 1, none⟩ (.int .i64 ((o + 2 : Nat) : Int))) := HE2.out.set rfl _
    rw [show ((o + 2 : Nat) : Int) = (o : Int) + 2 by omega] at hx3 hE3
    have HFN : Hid (MkPost R w p (some ⟨g, off, none⟩) cp s o l bl M (.returned (.string (strOfNums [c, d]))) ((w2.setCell ⟨p, 1, none⟩ (.int .i64 ((o : Int) + 2))).alloc (.cells #[.int .u8 c, .int .u8 d] 5))) := by
      rw [HMe.out]
      exact ⟨rfl, hE3.alloc _, hx3.below (be1 _ (.cells #[.int .u8 c, .int .u8 d] 5))⟩
    have hcv := conv2 (w2.setCell ⟨p, 1, none⟩ (.int .i64 ((o : Int) + 2))) w2.heap.size (by simp) c d
    clear hx3 hE3 HX2 HE2 HMe HM HTB
    go_wp2
    go_ret
    exact HFN.out
end Go.Proofs.Qxb6500774a
