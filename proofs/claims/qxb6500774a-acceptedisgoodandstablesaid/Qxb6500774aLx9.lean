import Derived.Test.Qxb6500774aLx8
namespace Go.Proofs.Qxb6500774a
open Go.RowKit
variable {R : Nat → Option Value}

theorem conv1 (w : World) (g : Nat) (hg : w.heap.size = g) (c : Int) : (convert 32 9 (.slice (some ⟨g, 0, none⟩) 1 1)).run Try.prog (w.alloc (.cells #[.int .u8 c] 5)) = .ok (.string (strOfNums [c])) (w.alloc (.cells #[.int .u8 c] 5)) := by
  refine run_convert_bytes_arg _ 32 5 Try.underlying32 Try.underlying5 g 0 1 1 [c] rfl (fun i hi => ?_) 9 Try.underlying9
  obtain rfl : i = 0 := by omega
  have := new_cells w [.int .u8 c] 5 0 (.int .u8 c) rfl
  rw [hg] at this
  exact this
theorem conv2 (w : World) (g : Nat) (hg : w.heap.size = g) (c d : Int) : (convert 32 9 (.slice (some ⟨g, 0, none⟩) 2 2)).run Try.prog (w.alloc (.cells #[.int .u8 c, .int .u8 d] 5)) = .ok (.string (strOfNums [c, d])) (w.alloc (.cells #[.int .u8 c, .int .u8 d] 5)) := by
  refine run_convert_bytes_arg _ 32 5 Try.underlying32 Try.underlying5 g 0 2 2 [c, d] rfl (fun i hi => ?_) 9 Try.underlying9
  obtain rfl | rfl : i = 0 ∨ i = 1 := by omega
  · have := new_cells w [.int .u8 c, .int .u8 d] 5 0 (.int .u8 c) rfl
    rw [hg] at this
    exact this
  · have := new_cells w [.int .u8 c, .int .u8 d] 5 1 (.int .u8 d) rfl
    rw [hg] at this
    exact this
set_option maxRecDepth 100000 in
set_option maxHeartbeats 4000000 in
/-- lexer.mark -/
theorem mark_one (w : World) (p : Nat) (a : Option Addr) (cp : Nat) (s : List Int) (o : Nat) (h : Lx R w p a cp s o 1 0) (hl : s.length ≤ 1099511627776) (c : Int) (hc : s[o]? = some c) (h6 : c = 59 ∨ c = 40 ∨ c = 41 ∨ c = 91 ∨ c = 93 ∨ c = 45) :
    Calls Try.prog 90 #[.pointer (some ⟨p, 0, none⟩)] w fun e w' => e = .returned (.string (strOfNums [c])) ∧ Ex (fun k => k = p) w w' ∧ Lx R w' p a cp s (o + 1) 1 0 := by
  have hlt : o < s.length := (List.getElem?_eq_some_iff.1 hc).1
  have hki : (o : Int) < (s.length : Int) := by omega
  obtain ⟨g, off, ha, cx⟩ := h.src o _ hc
  subst ha
  have c0 := h.c0
  have c1 := h.c1
  have HX := hide h
  have hw1 : IntKind.i64.wrap ((o : Int) + 1) = ((o + 1 : Nat) : Int) := by rw [IntKind.wrap_i64]; omega
  obtain ⟨d, hd⟩ : ∃ d, byP s ((o + 1 : Nat) : Int) = d := ⟨_, rfl⟩
  have HB : ∀ m, Hid (Calls Try.prog 91 #[.pointer (some ⟨p, 0, none⟩), .int .i64 ((o + 1 : Nat) : Int)] (w.drewN m) fun e w' => e = .returned (.int .u8 d) ∧ w' = w.drewN m) := fun m => by
    have hx := HX.out.below (below_dn w m w.heap.size)
    have := byteAt_any _ _ _ _ s (o + 1) hx.src hx.c0
    rw [hd] at this
    exact this
  clear hd hc h
  go_enter Try.func90, Try.ntmps90
  go_wp2_with fail
  go_quiet (first | (go_at_call 91; refine Calls.quiet_of_same (HB _).out))
  have HX2 := hide (HX.out.below (below_dn w nq w.heap.size))
  have HE2 : Hid (Ex (fun k => k = p) w (w.drewN nq)) := (Ex.refl _ _).drewN nq
  generalize w.drewN nq = w2 at *
  clear HX c0 c1 cx HB
  have c1 := HX2.out.c1
  have f1 := HX2.out.f1
  have hx3 := HX2.out.off (o + 1)
  have hE3 : Ex (fun k => k = p) w (w2.setCell ⟨p, 1, none⟩ (.int .i64 ((o + 1 : Nat) : Int))) := HE2.out.set rfl _
  rw [show ((o + 1 : Nat) : Int) = (o : Int) + 1 by omega] at hx3 hE3
  have HX4 := hide (hx3.below (be1 _ (.cells #[.int .u8 c] 5)))
  have HE4 : Hid (Ex (fun k => k = p) w ((w2.setCell ⟨p, 1, none⟩ (.int .i64 ((o : Int) + 1))).alloc (.cells #[.int .u8 c] 5))) := hE3.alloc _
  have hcv := conv1 (w2.setCell ⟨p, 1, none⟩ (.int .i64 ((o : Int) + 1))) w2.heap.size (by simp) c
  clear hx3 hE3 HX2 HE2
  obtain ⟨n58, n60, n62, n61, n46⟩ : (c == 58) = false ∧ (c == 60) = false ∧ (c == 62) = false ∧ (c == 61) = false ∧ (c == 46) = false := by simp only [beq_eq_false_iff_ne, ne_eq]; omega
  have H6 := hide h6
  clear h6
  go_upto_region 2 with fail
  go_cut [55] (fun s55 wx => s55 = .bool false ∧ w2 = wx)
  case first =>
    obtain ⟨b61, e61⟩ : ∃ b, (d == 61) = b := ⟨_, rfl⟩
    obtain ⟨b62, e62⟩ : ∃ b, (d == 62) = b := ⟨_, rfl⟩
    obtain ⟨b46, e46⟩ : ∃ b, (d == 46) = b := ⟨_, rfl⟩
    cases b61 <;> cases b62 <;> cases b46
    all_goals go_wp2
    all_goals go_meet
    all_goals exact ⟨rfl, rfl⟩
  obtain ⟨rfl, rfl⟩ := hcut
  have h6 := H6.out
  clear H6 n58 n60 n62 n61 n46
  rcases h6 with rfl | rfl | rfl | rfl | rfl | rfl
  all_goals go_wp2
  all_goals go_ret
  all_goals exact ⟨rfl, HE4.out, HX4.out⟩
set_option maxRecDepth 100000 in
set_option maxHeartbeats 4000000 in
/-- lexer.mark -/
theorem mark_asg (w : World) (p : Nat) (a : Option Addr) (cp : Nat) (s : List Int) (o : Nat) (h : Lx R w p a cp s o 1 0) (hl : s.length ≤ 1099511627776) (hc : s[o]? = some 58) (hd : s[o + 1]? = some 61) :
    Calls Try.prog 90 #[.pointer (some ⟨p, 0, none⟩)] w fun e w' => e = .returned (.string (strOfNums [58, 61])) ∧ Ex (fun k => k = p) w w' ∧ Lx R w' p a cp s (o + 2) 1 0 := by
  have hlt : o < s.length := (List.getElem?_eq_some_iff.1 hc).1
  have hki : (o : Int) < (s.length : Int) := by omega
  obtain ⟨g, off, ha, cx⟩ := h.src o _ hc
  subst ha
  have c0 := h.c0
  have c1 := h.c1
  have HX := hide h
  have hw1 : IntKind.i64.wrap ((o : Int) + 1) = ((o + 1 : Nat) : Int) := by rw [IntKind.wrap_i64]; omega
  have hd := byP_at hd
  have hw2 : IntKind.i64.wrap ((o : Int) + 2) = ((o + 2 : Nat) : Int) := by rw [IntKind.wrap_i64]; have := World.block_lt_of_cell? _ _ c0; omega
  have HB : ∀ m, Hid (Calls Try.prog 91 #[.pointer (some ⟨p, 0, none⟩), .int .i64 ((o + 1 : Nat) : Int)] (w.drewN m) fun e w' => e = .returned (.int .u8 61) ∧ w' = w.drewN m) := fun m => by
    have hx := HX.out.below (below_dn w m w.heap.size)
    have := byteAt_any _ _ _ _ s (o + 1) hx.src hx.c0
    rw [hd] at this
    exact this
  clear hd hc h
  go_enter Try.func90, Try.ntmps90
  go_wp2_with fail
  go_quiet (first | (go_at_call 91; refine Calls.quiet_of_same (HB _).out))
  have HX2 := hide (HX.out.below (below_dn w nq w.heap.size))
  have HE2 : Hid (Ex (fun k => k = p) w (w.drewN nq)) := (Ex.refl _ _).drewN nq
  generalize w.drewN nq = w2 at *
  clear HX c0 c1 cx HB
  have c1 := HX2.out.c1
  have f1 := HX2.out.f1
  have hx3 := HX2.out.off (o + 2)
  have hE3 : Ex (fun k => k = p) w (w2.setCell ⟨p, 1, none⟩ (.int .i64 ((o + 2 : Nat) : Int))) := HE2.out.set rfl _
  rw [show ((o + 2 : Nat) : Int) = (o : Int) + 2 by omega] at hx3 hE3
  have HX4 := hide (hx3.below (be1 _ (.cells #[.int .u8 58, .int .u8 61] 5)))
  have HE4 : Hid (Ex (fun k => k = p) w ((w2.setCell ⟨p, 1, none⟩ (.int .i64 ((o : Int) + 2))).alloc (.cells #[.int .u8 58, .int .u8 61] 5))) := hE3.alloc _
  have hcv := conv2 (w2.setCell ⟨p, 1, none⟩ (.int .i64 ((o : Int) + 2))) w2.heap.size (by simp) 58 61
  clear hx3 hE3 HX2 HE2
  go_wp2
  go_ret
  exact ⟨rfl, HE4.out, HX4.out⟩
end Go.Proofs.Qxb6500774a
