import Derived.Test.Qxb6500774aNx1
namespace Go.Proofs.Qxb6500774a
open Go.RowKit
variable {R : Nat → Option Value}

set_option maxRecDepth 100000 in
set_option maxHeartbeats 4000000 in
theorem next_end (w : World) (p : Nat) (a : Option Addr) (cp : Nat) (s : List Int) (o q : Nat) (h : Lx R w p a cp s o 1 0) (hs : Sane s) (ho : o ≤ s.length) (hl : s.length ≤ 1099511627776) (hq : o + blanks (s.drop o) = q) (hqs : q ≤ s.length) (hE : q = s.length) :
    Calls Try.prog 70 #[.pointer (some ⟨p, 0, none⟩)] w fun e w' => e = .returned (.agg #[.int .i64 0, .string ⟨#[]⟩, .int .i64 0, .int .i64 0, .int .i64 1, .int .i64 ((q : Int) + 1)]) ∧ Ex (fun k => k = p) w w' ∧ Lx R w' p a cp s q 1 0 := by
  have d1 : decide (s.length ≤ q) = true := by simp; omega
  clear hE
  have HX := hide h
  have HS := hide hs
  clear h hs
  go_enter Try.func70, Try.ntmps70
  go_wp2_with fail
  have hr0 : TB (w.alloc (.cells #[.int .i64 0, .string ⟨#[]⟩, .int .i64 0, .int .i64 0, .int .i64 0, .int .i64 0] 81)) w.heap.size 0 ⟨#[]⟩ 0 0 0 0 := TB.new w 0 ⟨#[]⟩ 0 0 0 0
  have HX0 := hide (HX.out.below (be1 w (.cells #[.int .i64 0, .string ⟨#[]⟩, .int .i64 0, .int .i64 0, .int .i64 0, .int .i64 0] 81)))
  have HE0 : Hid (Ex (fun k => k = p) w (w.alloc (.cells #[.int .i64 0, .string ⟨#[]⟩, .int .i64 0, .int .i64 0, .int .i64 0, .int .i64 0] 81))) := (Ex.refl _ _).alloc _
  have hpr : p < w.heap.size := World.block_lt_of_cell? _ _ HX.out.c0
  obtain ⟨r0, hrr⟩ : ∃ r, w.heap.size = r := ⟨_, rfl⟩
  have HRR : Hid (w.heap.size ≤ r0) := by rw [← hrr]; exact Nat.le_refl _
  rw [hrr] at hr0 hpr ⊢
  refine (skip_any _ p a cp s o HX0.out HS.out ho hl).mono ?_
  rintro e w1 ⟨rfl, hex, hlx⟩
  simp only []
  rw [hq] at hlx
  have hR := hr0.keep hex (by omega)
  have hr1 : r0 < w1.heap.size := World.block_lt_of_cell? _ _ hR.c0
  have HX1 := hide hlx
  have HE1 := hide (HE0.out.trans hex)
  have HR := hide hR
  have HX00 := HX
  clear hr0 hrr HX HX0 HE0 hex hlx hR
  have l0 := HX1.out.c0
  have l1 := HX1.out.c1
  have l2 := HX1.out.c2
  have l3 := HX1.out.c3
  have hw1 : IntKind.i64.wrap ((q : Int) - 0) = (q : Int) := by rw [IntKind.wrap_i64]; omega
  have hw2 : IntKind.i64.wrap ((q : Int) + 1) = (q : Int) + 1 := by rw [IntKind.wrap_i64]; omega
  have hw3 : IntKind.i64.wrap (q : Int) = (q : Int) := by rw [IntKind.wrap_i64]; omega
  go_upto_region 2 with fail
  have hp1 : p < w1.heap.size := World.block_lt_of_cell? _ _ l0
  go_region
  have hT2 : TB (w1.alloc (.cells #[.int .i64 0, .string ⟨#[]⟩, .int .i64 0, .int .i64 0, .int .i64 1, .int .i64 ((q : Int) + 1)] 81)) w1.heap.size 0 ⟨#[]⟩ 0 0 1 ((q : Int) + 1) := TB.new w1 0 ⟨#[]⟩ 0 0 1 ((q : Int) + 1)
  have HT := hide (hT2.keep (S := fun _ => False) (Ex.refl _ _).drew (fun e => e))
  have HX2 := hide (HX1.out.below (((Below.refl w1.heap.size w1).alloc (Nat.le_refl _) (.cells #[.int .i64 0, .string ⟨#[]⟩, .int .i64 0, .int .i64 0, .int .i64 1, .int .i64 ((q : Int) + 1)] 81)).drew))
  have HR2 := hide (HR.out.keep (S := fun _ => False) (((Ex.refl _ w1).alloc (.cells #[.int .i64 0, .string ⟨#[]⟩, .int .i64 0, .int .i64 0, .int .i64 1, .int .i64 ((q : Int) + 1)] 81)).drew) (fun e => e))
  have HE2 : Hid (Ex (fun k => k = p) w (w1.alloc (.cells #[.int .i64 0, .string ⟨#[]⟩, .int .i64 0, .int .i64 0, .int .i64 1, .int .i64 ((q : Int) + 1)] 81)).drew) := (HE1.out.alloc _).drew
  generalize (w1.alloc (.cells #[.int .i64 0, .string ⟨#[]⟩, .int .i64 0, .int .i64 0, .int .i64 1, .int .i64 ((q : Int) + 1)] 81)).drew = w2 at *
  generalize w1.heap.size = r1 at *
  clear hT2 HX1 HR HE1 l0 l1 l2 l3 hw1 hw2 hw3 hp1
  have l0 := HX2.out.c0
  have l1 := HX2.out.c1
  go_upto_region 6 with fail
  go_quiet (fail)
  have HX3 := hide (HX2.out.below (below_dn w2 nq w2.heap.size))
  have HR3 := hide (HR2.out.keep (S := fun _ => False) ((Ex.refl _ w2).drewN nq) (fun e => e))
  have HT3 := hide (HT.out.keep (S := fun _ => False) ((Ex.refl _ w2).drewN nq) (fun e => e))
  have HE3 : Hid (Ex (fun k => k = p) w (w2.drewN nq)) := HE2.out.drewN nq
  clear l0 l1 HX2 HR2 HT HE2
  generalize w2.drewN nq = w3 at *
  have HX2 := HX3
  have HR2 := HR3
  have HT := HT3
  have HE2 := HE3
  clear HX3 HR3 HT3 HE3
  have R0 := HR2.out.c0
  have R1 := HR2.out.c1
  have R2 := HR2.out.c2
  have R3 := HR2.out.c3
  have R4 := HR2.out.c4
  have R5 := HR2.out.c5
  have F0 := HR2.out.f0
  have F1 := HR2.out.f1
  have F2 := HR2.out.f2
  have F3 := HR2.out.f3
  have F4 := HR2.out.f4
  have F5 := HR2.out.f5
  have T0 := HT.out.c0
  have T1 := HT.out.c1
  have T2 := HT.out.c2
  have T3 := HT.out.c3
  have T4 := HT.out.c4
  have T5 := HT.out.c5
  have HXF := fun (y0 y1 y2 y3 y4 y5 : Value) => hide (((((((HX2.out.otherN HX00.out HRR.out 0 y0).otherN HX00.out HRR.out 1 y1).otherN HX00.out HRR.out 2 y2).otherN HX00.out HRR.out 3 y3).otherN HX00.out HRR.out 4 y4).otherN HX00.out HRR.out 5 y5))
  have HEF := fun (y0 y1 y2 y3 y4 y5 : Value) => hide ((((((HE2.out.setNew (p := r0) (j := 0) HRR.out y0).setNew (p := r0) (j := 1) HRR.out y1).setNew (p := r0) (j := 2) HRR.out y2).setNew (p := r0) (j := 3) HRR.out y3).setNew (p := r0) (j := 4) HRR.out y4).setNew (p := r0) (j := 5) HRR.out y5)
  go_wp2
  exact bodyPost_ret (v := .agg #[.int .i64 0, .string ⟨#[]⟩, .int .i64 0, .int .i64 0, .int .i64 1, .int .i64 ((q : Int) + 1)]) (by simp [results, Try.results70, go_sem, R0, R1, R2, R3, R4, R5]) rfl ⟨rfl, (HEF _ _ _ _ _ _).out, (HXF _ _ _ _ _ _).out⟩
set_option maxRecDepth 100000 in
set_option maxHeartbeats 4000000 in
theorem next_num (w : World) (p : Nat) (a : Option Addr) (cp : Nat) (s : List Int) (o q : Nat) (h : Lx R w p a cp s o 1 0) (hs : Sane s) (ho : o ≤ s.length) (hl : s.length ≤ 1099511627776) (hq : o + blanks (s.drop o) = q) (hqs : q ≤ s.length) (c : Int) (hc : s[q]? = some c) (hd : dgP c = true) (n : Nat) (hn : n = wlen (s.drop q)) (v : Int) (hv : v = decimalP ((s.drop q).take n)) (hv0 : 0 ≤ v) :
    Calls Try.prog 70 #[.pointer (some ⟨p, 0, none⟩)] w fun e w' => e = .returned (.agg #[.int .i64 3, .string ⟨#[]⟩, .int .i64 v, .int .i64 0, .int .i64 1, .int .i64 ((q : Int) + 1)]) ∧ Ex (fun k => k = p) w w' ∧ Lx R w' p a cp s (q + n) 1 0 := by
  have hqs := hqs
  have hlt : q < s.length := (List.getElem?_eq_some_iff.1 hc).1
  have d1 : decide (s.length ≤ q) = false := by simp; omega
  have HC := hide hc
  clear hc
  have HD := hide hd
  have HN := hide hn
  have HV := hide hv
  have hnn : decide (v < 0) = false := by simp; omega
  clear hd hn hv
  have HX := hide h
  have HS := hide hs
  clear h hs
  go_enter Try.func70, Try.ntmps70
  go_wp2_with fail
  have hr0 : TB (w.alloc (.cells #[.int .i64 0, .string ⟨#[]⟩, .int .i64 0, .int .i64 0, .int .i64 0, .int .i64 0] 81)) w.heap.size 0 ⟨#[]⟩ 0 0 0 0 := TB.new w 0 ⟨#[]⟩ 0 0 0 0
  have HX0 := hide (HX.out.below (be1 w (.cells #[.int .i64 0, .string ⟨#[]⟩, .int .i64 0, .int .i64 0, .int .i64 0, .int .i64 0] 81)))
  have HE0 : Hid (Ex (fun k => k = p) w (w.alloc (.cells #[.int .i64 0, .string ⟨#[]⟩, .int .i64 0, .int .i64 0, .int .i64 0, .int .i64 0] 81))) := (Ex.refl _ _).alloc _
  have hpr : p < w.heap.size := World.block_lt_of_cell? _ _ HX.out.c0
  obtain ⟨r0, hrr⟩ : ∃ r, w.heap.size = r := ⟨_, rfl⟩
  have HRR : Hid (w.heap.size ≤ r0) := by rw [← hrr]; exact Nat.le_refl _
  rw [hrr] at hr0 hpr ⊢
  refine (skip_any _ p a cp s o HX0.out HS.out ho hl).mono ?_
  rintro e w1 ⟨rfl, hex, hlx⟩
  simp only []
  rw [hq] at hlx
  have hR := hr0.keep hex (by omega)
  have hr1 : r0 < w1.heap.size := World.block_lt_of_cell? _ _ hR.c0
  have HX1 := hide hlx
  have HE1 := hide (HE0.out.trans hex)
  have HR := hide hR
  have HX00 := HX
  clear hr0 hrr HX HX0 HE0 hex hlx hR
  have l0 := HX1.out.c0
  have l1 := HX1.out.c1
  have l2 := HX1.out.c2
  have l3 := HX1.out.c3
  have hw1 : IntKind.i64.wrap ((q : Int) - 0) = (q : Int) := by rw [IntKind.wrap_i64]; omega
  have hw2 : IntKind.i64.wrap ((q : Int) + 1) = (q : Int) + 1 := by rw [IntKind.wrap_i64]; omega
  have hw3 : IntKind.i64.wrap (q : Int) = (q : Int) := by rw [IntKind.wrap_i64]; omega
  go_upto_region 2 with fail
  have hp1 : p < w1.heap.size := World.block_lt_of_cell? _ _ l0
  go_region
  have hT2 : TB (w1.alloc (.cells #[.int .i64 0, .string ⟨#[]⟩, .int .i64 0, .int .i64 0, .int .i64 1, .int .i64 ((q : Int) + 1)] 81)) w1.heap.size 0 ⟨#[]⟩ 0 0 1 ((q : Int) + 1) := TB.new w1 0 ⟨#[]⟩ 0 0 1 ((q : Int) + 1)
  have HT := hide (hT2.keep (S := fun _ => False) (Ex.refl _ _).drew (fun e => e))
  have HX2 := hide (HX1.out.below (((Below.refl w1.heap.size w1).alloc (Nat.le_refl _) (.cells #[.int .i64 0, .string ⟨#[]⟩, .int .i64 0, .int .i64 0, .int .i64 1, .int .i64 ((q : Int) + 1)] 81)).drew))
  have HR2 := hide (HR.out.keep (S := fun _ => False) (((Ex.refl _ w1).alloc (.cells #[.int .i64 0, .string ⟨#[]⟩, .int .i64 0, .int .i64 0, .int .i64 1, .int .i64 ((q : Int) + 1)] 81)).drew) (fun e => e))
  have HE2 : Hid (Ex (fun k => k = p) w (w1.alloc (.cells #[.int .i64 0, .string ⟨#[]⟩, .int .i64 0, .int .i64 0, .int .i64 1, .int .i64 ((q : Int) + 1)] 81)).drew) := (HE1.out.alloc _).drew
  generalize (w1.alloc (.cells #[.int .i64 0, .string ⟨#[]⟩, .int .i64 0, .int .i64 0, .int .i64 1, .int .i64 ((q : Int) + 1)] 81)).drew = w2 at *
  generalize w1.heap.size = r1 at *
  clear hT2 HX1 HR HE1 l0 l1 l2 l3 hw1 hw2 hw3 hp1
  have l0 := HX2.out.c0
  have l1 := HX2.out.c1
  go_upto_region 6 with fail
  go_quiet (fail)
  have HX3 := hide (HX2.out.below (below_dn w2 nq w2.heap.size))
  have HR3 := hide (HR2.out.keep (S := fun _ => False) ((Ex.refl _ w2).drewN nq) (fun e => e))
  have HT3 := hide (HT.out.keep (S := fun _ => False) ((Ex.refl _ w2).drewN nq) (fun e => e))
  have HE3 : Hid (Ex (fun k => k = p) w (w2.drewN nq)) := HE2.out.drewN nq
  clear l0 l1 HX2 HR2 HT HE2
  generalize w2.drewN nq = w3 at *
  have HX2 := HX3
  have HR2 := HR3
  have HT := HT3
  have HE2 := HE3
  clear HX3 HR3 HT3 HE3
  have l0 := HX2.out.c0
  have l1 := HX2.out.c1
  obtain ⟨g, off, ha, cx⟩ := HX2.out.src q c HC.out
  subst ha
  have hki : (q : Int) < (s.length : Int) := by omega
  go_upto_region 8 with fail
  go_quiet (fail)
  have HX3 := hide (HX2.out.below (below_dn w3 nq w3.heap.size))
  have HR3 := hide (HR2.out.keep (S := fun _ => False) ((Ex.refl _ w3).drewN nq) (fun e => e))
  have HT3 := hide (HT.out.keep (S := fun _ => False) ((Ex.refl _ w3).drewN nq) (fun e => e))
  have HE3 : Hid (Ex (fun k => k = p) w (w3.drewN nq)) := HE2.out.drewN nq
  clear l0 l1 cx HX2 HR2 HT HE2
  generalize w3.drewN nq = w4 at *
  have HX2 := HX3
  have HR2 := HR3
  have HT := HT3
  have HE2 := HE3
  clear HX3 HR3 HT3 HE3
  have T0 := HT.out.c0
  have T2 := HT.out.c2
  have TF0 := HT.out.f0
  have TF2 := HT.out.f2
  go_wp2_with (go_at_call 86; refine (isDigit_any _ c).mono ?_; rintro e wq ⟨rfl, rfl⟩; rw [HD.out]; simp only [])
  refine (run_any _ p _ cp s q HX2.out HS.out hqs hl).mono ?_
  rintro e w5 ⟨n', hn', g', rfl, hex, hlx, hsr, hgs⟩
  obtain rfl : n = n' := HN.out.trans hn'.symm
  have HR3 := hide (HR2.out.keep hex (by omega))
  have HT3 := hide (HT.out.keep hex (by omega))
  have HE3 := hide (HE2.out.trans hex)
  have HX3 := hide hlx
  have HSR := hide hsr
  have hln : ((s.drop q).take n).length = n := by rw [List.length_take, List.length_drop]; have := wlen_le (s.drop q); rw [List.length_drop] at this; have := HN.out; omega
  have HDC : Hid (∀ cp', Calls Try.prog 87 #[.slice (some ⟨g', 0, none⟩) n cp'] w5 fun e w' => e = .returned (.int .i64 v) ∧ w' = w5) := fun cp' => by
    have := decimal_any w5 (some ⟨g', 0, none⟩) cp' _ HSR.out (by rw [List.length_take, List.length_drop]; omega)
    rw [hln, ← HV.out] at this
    exact this
  clear HR2 HT HE2 HX2 hex hlx hsr hgs hn' T0 T2 TF0 TF2
  have T0 := HT3.out.c0
  have T2 := HT3.out.c2
  have TF0 := HT3.out.f0
  have TF2 := HT3.out.f2
  try simp only []
  go_upto_region 28 with (go_at_call 87; refine (HDC.out _).mono ?_; rintro e wq ⟨rfl, rfl⟩; simp only [])
  have hx4 := (HX3.out.otherN HX00.out (by have := HRR.out; omega : w.heap.size ≤ r1) 0 (.int .i64 3)).otherN HX00.out (by have := HRR.out; omega : w.heap.size ≤ r1) 2 (.int .i64 v)
  have ht4 := (HT3.out.put0 3).put2 v
  have hr4 := HR3.out.keep (((Ex.refl (fun k => k = r1) wq).set (p := r1) (j := 0) rfl (.int .i64 3)).set (p := r1) (j := 2) rfl (.int .i64 v)) (by omega)
  have he4 := (HE3.out.setNew (p := r1) (j := 0) (by have := HRR.out; omega) (.int .i64 3)).setNew (p := r1) (j := 2) (by have := HRR.out; omega) (.int .i64 v)
  generalize (wq.setCell ⟨r1, 0, none⟩ (.int .i64 3)).setCell ⟨r1, 2, none⟩ (.int .i64 v) = w6 at *
  have HX4 := hide hx4
  have HT4 := hide ht4
  have HR4 := hide hr4
  have HE4 := hide he4
  clear hx4 ht4 hr4 he4 HX3 HT3 HR3 HE3 T0 T2 TF0 TF2 HDC HSR
  have R0 := HR4.out.c0
  have R1 := HR4.out.c1
  have R2 := HR4.out.c2
  have R3 := HR4.out.c3
  have R4 := HR4.out.c4
  have R5 := HR4.out.c5
  have F0 := HR4.out.f0
  have F1 := HR4.out.f1
  have F2 := HR4.out.f2
  have F3 := HR4.out.f3
  have F4 := HR4.out.f4
  have F5 := HR4.out.f5
  have T0 := HT4.out.c0
  have T1 := HT4.out.c1
  have T2 := HT4.out.c2
  have T3 := HT4.out.c3
  have T4 := HT4.out.c4
  have T5 := HT4.out.c5
  have HXF := fun (y0 y1 y2 y3 y4 y5 : Value) => hide (((((((HX4.out.otherN HX00.out HRR.out 0 y0).otherN HX00.out HRR.out 1 y1).otherN HX00.out HRR.out 2 y2).otherN HX00.out HRR.out 3 y3).otherN HX00.out HRR.out 4 y4).otherN HX00.out HRR.out 5 y5))
  have HEF := fun (y0 y1 y2 y3 y4 y5 : Value) => hide ((((((HE4.out.setNew (p := r0) (j := 0) HRR.out y0).setNew (p := r0) (j := 1) HRR.out y1).setNew (p := r0) (j := 2) HRR.out y2).setNew (p := r0) (j := 3) HRR.out y3).setNew (p := r0) (j := 4) HRR.out y4).setNew (p := r0) (j := 5) HRR.out y5)
  go_wp2
  exact bodyPost_ret (v := .agg #[.int .i64 3, .string ⟨#[]⟩, .int .i64 v, .int .i64 0, .int .i64 1, .int .i64 ((q : Int) + 1)]) (by simp [results, Try.results70, go_sem, R0, R1, R2, R3, R4, R5]) rfl ⟨rfl, (HEF _ _ _ _ _ _).out, (HXF _ _ _ _ _ _).out⟩
set_option maxRecDepth 100000 in
set_option maxHeartbeats 4000000 in
theorem next_one (w : World) (p : Nat) (a : Option Addr) (cp : Nat) (s : List Int) (o q : Nat) (h : Lx R w p a cp s o 1 0) (hs : Sane s) (ho : o ≤ s.length) (hl : s.length ≤ 1099511627776) (hq : o + blanks (s.drop o) = q) (hqs : q ≤ s.length) (c : Int) (hc : s[q]? = some c) (h6 : c = 59 ∨ c = 40 ∨ c = 41 ∨ c = 91 ∨ c = 93 ∨ c = 45) :
    Calls Try.prog 70 #[.pointer (some ⟨p, 0, none⟩)] w fun e w' => e = .returned (.agg #[.int .i64 5, .string (strOfNums [c]), .int .i64 0, .int .i64 0, .int .i64 1, .int .i64 ((q : Int) + 1)]) ∧ Ex (fun k => k = p) w w' ∧ Lx R w' p a cp s (q + 1) 1 0 := by
  have hqs := hqs
  have hlt : q < s.length := (List.getElem?_eq_some_iff.1 hc).1
  have d1 : decide (s.length ≤ q) = false := by simp; omega
  have HC := hide hc
  clear hc
  have H6 := hide h6
  clear h6
  have HD : Hid (dgP c = false) := by show dgP c = false; rcases H6.out with rfl | rfl | rfl | rfl | rfl | rfl <;> decide
  have HLT : Hid (ltP c = false) := by show ltP c = false; rcases H6.out with rfl | rfl | rfl | rfl | rfl | rfl <;> decide
  have HX := hide h
  have HS := hide hs
  clear h hs
  go_enter Try.func70, Try.ntmps70
  go_wp2_with fail
  have hr0 : TB (w.alloc (.cells #[.int .i64 0, .string ⟨#[]⟩, .int .i64 0, .int .i64 0, .int .i64 0, .int .i64 0] 81)) w.heap.size 0 ⟨#[]⟩ 0 0 0 0 := TB.new w 0 ⟨#[]⟩ 0 0 0 0
  have HX0 := hide (HX.out.below (be1 w (.cells #[.int .i64 0, .string ⟨#[]⟩, .int .i64 0, .int .i64 0, .int .i64 0, .int .i64 0] 81)))
  have HE0 : Hid (Ex (fun k => k = p) w (w.alloc (.cells #[.int .i64 0, .string ⟨#[]⟩, .int .i64 0, .int .i64 0, .int .i64 0, .int .i64 0] 81))) := (Ex.refl _ _).alloc _
  have hpr : p < w.heap.size := World.block_lt_of_cell? _ _ HX.out.c0
  obtain ⟨r0, hrr⟩ : ∃ r, w.heap.size = r := ⟨_, rfl⟩
  have HRR : Hid (w.heap.size ≤ r0) := by rw [← hrr]; exact Nat.le_refl _
  rw [hrr] at hr0 hpr ⊢
  refine (skip_any _ p a cp s o HX0.out HS.out ho hl).mono ?_
  rintro e w1 ⟨rfl, hex, hlx⟩
  simp only []
  rw [hq] at hlx
  have hR := hr0.keep hex (by omega)
  have hr1 : r0 < w1.heap.size := World.block_lt_of_cell? _ _ hR.c0
  have HX1 := hide hlx
  have HE1 := hide (HE0.out.trans hex)
  have HR := hide hR
  have HX00 := HX
  clear hr0 hrr HX HX0 HE0 hex hlx hR
  have l0 := HX1.out.c0
  have l1 := HX1.out.c1
  have l2 := HX1.out.c2
  have l3 := HX1.out.c3
  have hw1 : IntKind.i64.wrap ((q : Int) - 0) = (q : Int) := by rw [IntKind.wrap_i64]; omega
  have hw2 : IntKind.i64.wrap ((q : Int) + 1) = (q : Int) + 1 := by rw [IntKind.wrap_i64]; omega
  have hw3 : IntKind.i64.wrap (q : Int) = (q : Int) := by rw [IntKind.wrap_i64]; omega
  go_upto_region 2 with fail
  have hp1 : p < w1.heap.size := World.block_lt_of_cell? _ _ l0
  go_region
  have hT2 : TB (w1.alloc (.cells #[.int .i64 0, .string ⟨#[]⟩, .int .i64 0, .int .i64 0, .int .i64 1, .int .i64 ((q : Int) + 1)] 81)) w1.heap.size 0 ⟨#[]⟩ 0 0 1 ((q : Int) + 1) := TB.new w1 0 ⟨#[]⟩ 0 0 1 ((q : Int) + 1)
  have HT := hide (hT2.keep (S := fun _ => False) (Ex.refl _ _).drew (fun e => e))
  have HX2 := hide (HX1.out.below (((Below.refl w1.heap.size w1).alloc (Nat.le_refl _) (.cells #[.int .i64 0, .string ⟨#[]⟩, .int .i64 0, .int .i64 0, .int .i64 1, .int .i64 ((q : Int) + 1)] 81)).drew))
  have HR2 := hide (HR.out.keep (S := fun _ => False) (((Ex.refl _ w1).alloc (.cells #[.int .i64 0, .string ⟨#[]⟩, .int .i64 0, .int .i64 0, .int .i64 1, .int .i64 ((q : Int) + 1)] 81)).drew) (fun e => e))
  have HE2 : Hid (Ex (fun k => k = p) w (w1.alloc (.cells #[.int .i64 0, .string ⟨#[]⟩, .int .i64 0, .int .i64 0, .int .i64 1, .int .i64 ((q : Int) + 1)] 81)).drew) := (HE1.out.alloc _).drew
  generalize (w1.alloc (.cells #[.int .i64 0, .string ⟨#[]⟩, .int .i64 0, .int .i64 0, .int .i64 1, .int .i64 ((q : Int) + 1)] 81)).drew = w2 at *
  generalize w1.heap.size = r1 at *
  clear hT2 HX1 HR HE1 l0 l1 l2 l3 hw1 hw2 hw3 hp1
  have l0 := HX2.out.c0
  have l1 := HX2.out.c1
  go_upto_region 6 with fail
  go_quiet (fail)
  have HX3 := hide (HX2.out.below (below_dn w2 nq w2.heap.size))
  have HR3 := hide (HR2.out.keep (S := fun _ => False) ((Ex.refl _ w2).drewN nq) (fun e => e))
  have HT3 := hide (HT.out.keep (S := fun _ => False) ((Ex.refl _ w2).drewN nq) (fun e => e))
  have HE3 : Hid (Ex (fun k => k = p) w (w2.drewN nq)) := HE2.out.drewN nq
  clear l0 l1 HX2 HR2 HT HE2
  generalize w2.drewN nq = w3 at *
  have HX2 := HX3
  have HR2 := HR3
  have HT := HT3
  have HE2 := HE3
  clear HX3 HR3 HT3 HE3
  have l0 := HX2.out.c0
  have l1 := HX2.out.c1
  obtain ⟨g, off, ha, cx⟩ := HX2.out.src q c HC.out
  subst ha
  have hki : (q : Int) < (s.length : Int) := by omega
  go_upto_region 8 with fail
  go_quiet (fail)
  have HX3 := hide (HX2.out.below (below_dn w3 nq w3.heap.size))
  have HR3 := hide (HR2.out.keep (S := fun _ => False) ((Ex.refl _ w3).drewN nq) (fun e => e))
  have HT3 := hide (HT.out.keep (S := fun _ => False) ((Ex.refl _ w3).drewN nq) (fun e => e))
  have HE3 : Hid (Ex (fun k => k = p) w (w3.drewN nq)) := HE2.out.drewN nq
  clear l0 l1 cx HX2 HR2 HT HE2
  generalize w3.drewN nq = w4 at *
  have HX2 := HX3
  have HR2 := HR3
  have HT := HT3
  have HE2 := HE3
  clear HX3 HR3 HT3 HE3
  have HR1 : Hid (w.heap.size ≤ r1) := by have := HRR.out; show _ ≤ _; omega
  go_wp2_with (first | (go_at_call 86; refine (isDigit_any _ c).mono ?_; rintro e wq ⟨rfl, rfl⟩; rw [HD.out]; simp only []) | (go_at_call 89; refine (isLetter_any _ c).mono ?_; rintro e wq ⟨rfl, rfl⟩; rw [HLT.out]; simp only []))
  refine (mark_one _ p _ cp s q HX2.out hl c HC.out H6.out).mono ?_
  rintro e w5 ⟨rfl, hex, hlx⟩
  have HR3 := hide (HR2.out.keep hex (by omega))
  have HT3 := hide (HT.out.keep hex (by omega))
  have HE3 := hide (HE2.out.trans hex)
  have HX3 := hide hlx
  clear HR2 HT HE2 HX2 hex hlx
  have hne : ((strOfNums [c]).toList == []) = false := by
    rw [ByteArray.toList_eq]
    rcases H6.out with rfl | rfl | rfl | rfl | rfl | rfl <;> rfl
  obtain ⟨x, hx⟩ : ∃ x, strOfNums [c] = x := ⟨_, rfl⟩
  rw [hx] at hne ⊢
  have HXX := hide hx
  clear hx
  have T0 := HT3.out.c0
  have TF0 := HT3.out.f0
  have T1 := HT3.out.c1
  have TF1 := HT3.out.f1
  try simp only []
  go_upto_region 13 with fail
  have hx4 := ((HX3.out.otherN HX00.out HR1.out 0 (.int .i64 5)).otherN HX00.out HR1.out 1 (.string x))
  have ht4 := ((HT3.out.put0 (5)).put1 (x))
  have hr4 := HR3.out.keep (((Ex.refl (fun k => k = r1) w5).set (p := r1) (j := 0) rfl (.int .i64 5)).set (p := r1) (j := 1) rfl (.string x)) (by omega)
  have he4 := ((HE3.out.setNew (p := r1) (j := 0) HR1.out (.int .i64 5)).setNew (p := r1) (j := 1) HR1.out (.string x))
  generalize ((w5.setCell ⟨r1, 0, none⟩ (.int .i64 5)).setCell ⟨r1, 1, none⟩ (.string x)) = w6 at *
  have HX4 := hide hx4
  have HT4 := hide ht4
  have HR4 := hide hr4
  have HE4 := hide he4
  clear hx4 ht4 hr4 he4 HX3 HT3 HR3 HE3
  clear T0 TF0 T1 TF1
  have R0 := HR4.out.c0
  have R1 := HR4.out.c1
  have R2 := HR4.out.c2
  have R3 := HR4.out.c3
  have R4 := HR4.out.c4
  have R5 := HR4.out.c5
  have F0 := HR4.out.f0
  have F1 := HR4.out.f1
  have F2 := HR4.out.f2
  have F3 := HR4.out.f3
  have F4 := HR4.out.f4
  have F5 := HR4.out.f5
  have T0 := HT4.out.c0
  have T1 := HT4.out.c1
  have T2 := HT4.out.c2
  have T3 := HT4.out.c3
  have T4 := HT4.out.c4
  have T5 := HT4.out.c5
  have HXF := fun (y0 y1 y2 y3 y4 y5 : Value) => hide (((((((HX4.out.otherN HX00.out HRR.out 0 y0).otherN HX00.out HRR.out 1 y1).otherN HX00.out HRR.out 2 y2).otherN HX00.out HRR.out 3 y3).otherN HX00.out HRR.out 4 y4).otherN HX00.out HRR.out 5 y5))
  have HEF := fun (y0 y1 y2 y3 y4 y5 : Value) => hide ((((((HE4.out.setNew (p := r0) (j := 0) HRR.out y0).setNew (p := r0) (j := 1) HRR.out y1).setNew (p := r0) (j := 2) HRR.out y2).setNew (p := r0) (j := 3) HRR.out y3).setNew (p := r0) (j := 4) HRR.out y4).setNew (p := r0) (j := 5) HRR.out y5)
  go_wp2
  exact bodyPost_ret (v := .agg #[.int .i64 5, .string x, .int .i64 0, .int .i64 0, .int .i64 1, .int .i64 ((q : Int) + 1)]) (by simp [results, Try.results70, go_sem, R0, R1, R2, R3, R4, R5]) rfl ⟨by rw [HXX.out], (HEF _ _ _ _ _ _).out, (HXF _ _ _ _ _ _).out⟩
set_option maxRecDepth 100000 in
set_option maxHeartbeats 4000000 in
theorem next_asg (w : World) (p : Nat) (a : Option Addr) (cp : Nat) (s : List Int) (o q : Nat) (h : Lx R w p a cp s o 1 0) (hs : Sane s) (ho : o ≤ s.length) (hl : s.length ≤ 1099511627776) (hq : o + blanks (s.drop o) = q) (hqs : q ≤ s.length) (c : Int) (hc : s[q]? = some c) (h6 : c = 58) (hd : s[q + 1]? = some 61) :
    Calls Try.prog 70 #[.pointer (some ⟨p, 0, none⟩)] w fun e w' => e = .returned (.agg #[.int .i64 5, .string (strOfNums [58, 61]), .int .i64 0, .int .i64 0, .int .i64 1, .int .i64 ((q : Int) + 1)]) ∧ Ex (fun k => k = p) w w' ∧ Lx R w' p a cp s (q + 2) 1 0 := by
  have hqs := hqs
  have hlt : q < s.length := (List.getElem?_eq_some_iff.1 hc).1
  have d1 : decide (s.length ≤ q) = false := by simp; omega
  have HC := hide hc
  clear hc
  have H6 := hide h6
  have HD1 := hide hd
  clear h6 hd
  have HD : Hid (dgP c = false) := by show dgP c = false; rw [H6.out]; decide
  have HLT : Hid (ltP c = false) := by show ltP c = false; rw [H6.out]; decide
  have HX := hide h
  have HS := hide hs
  clear h hs
  go_enter Try.func70, Try.ntmps70
  go_wp2_with fail
  have hr0 : TB (w.alloc (.cells #[.int .i64 0, .string ⟨#[]⟩, .int .i64 0, .int .i64 0, .int .i64 0, .int .i64 0] 81)) w.heap.size 0 ⟨#[]⟩ 0 0 0 0 := TB.new w 0 ⟨#[]⟩ 0 0 0 0
  have HX0 := hide (HX.out.below (be1 w (.cells #[.int .i64 0, .string ⟨#[]⟩, .int .i64 0, .int .i64 0, .int .i64 0, .int .i64 0] 81)))
  have HE0 : Hid (Ex (fun k => k = p) w (w.alloc (.cells #[.int .i64 0, .string ⟨#[]⟩, .int .i64 0, .int .i64 0, .int .i64 0, .int .i64 0] 81))) := (Ex.refl _ _).alloc _
  have hpr : p < w.heap.size := World.block_lt_of_cell? _ _ HX.out.c0
  obtain ⟨r0, hrr⟩ : ∃ r, w.heap.size = r := ⟨_, rfl⟩
  have HRR : Hid (w.heap.size ≤ r0) := by rw [← hrr]; exact Nat.le_refl _
  rw [hrr] at hr0 hpr ⊢
  refine (skip_any _ p a cp s o HX0.out HS.out ho hl).mono ?_
  rintro e w1 ⟨rfl, hex, hlx⟩
  simp only []
  rw [hq] at hlx
  have hR := hr0.keep hex (by omega)
  have hr1 : r0 < w1.heap.size := World.block_lt_of_cell? _ _ hR.c0
  have HX1 := hide hlx
  have HE1 := hide (HE0.out.trans hex)
  have HR := hide hR
  have HX00 := HX
  clear hr0 hrr HX HX0 HE0 hex hlx hR
  have l0 := HX1.out.c0
  have l1 := HX1.out.c1
  have l2 := HX1.out.c2
  have l3 := HX1.out.c3
  have hw1 : IntKind.i64.wrap ((q : Int) - 0) = (q : Int) := by rw [IntKind.wrap_i64]; omega
  have hw2 : IntKind.i64.wrap ((q : Int) + 1) = (q : Int) + 1 := by rw [IntKind.wrap_i64]; omega
  have hw3 : IntKind.i64.wrap (q : Int) = (q : Int) := by rw [IntKind.wrap_i64]; omega
  go_upto_region 2 with fail
  have hp1 : p < w1.heap.size := World.block_lt_of_cell? _ _ l0
  go_region
  have hT2 : TB (w1.alloc (.cells #[.int .i64 0, .string ⟨#[]⟩, .int .i64 0, .int .i64 0, .int .i64 1, .int .i64 ((q : Int) + 1)] 81)) w1.heap.size 0 ⟨#[]⟩ 0 0 1 ((q : Int) + 1) := TB.new w1 0 ⟨#[]⟩ 0 0 1 ((q : Int) + 1)
  have HT := hide (hT2.keep (S := fun _ => False) (Ex.refl _ _).drew (fun e => e))
  have HX2 := hide (HX1.out.below (((Below.refl w1.heap.size w1).alloc (Nat.le_refl _) (.cells #[.int .i64 0, .string ⟨#[]⟩, .int .i64 0, .int .i64 0, .int .i64 1, .int .i64 ((q : Int) + 1)] 81)).drew))
  have HR2 := hide (HR.out.keep (S := fun _ => False) (((Ex.refl _ w1).alloc (.cells #[.int .i64 0, .string ⟨#[]⟩, .int .i64 0, .int .i64 0, .int .i64 1, .int .i64 ((q : Int) + 1)] 81)).drew) (fun e => e))
  have HE2 : Hid (Ex (fun k => k = p) w (w1.alloc (.cells #[.int .i64 0, .string ⟨#[]⟩, .int .i64 0, .int .i64 0, .int .i64 1, .int .i64 ((q : Int) + 1)] 81)).drew) := (HE1.out.alloc _).drew
  generalize (w1.alloc (.cells #[.int .i64 0, .string ⟨#[]⟩, .int .i64 0, .int .i64 0, .int .i64 1, .int .i64 ((q : Int) + 1)] 81)).drew = w2 at *
  generalize w1.heap.size = r1 at *
  clear hT2 HX1 HR HE1 l0 l1 l2 l3 hw1 hw2 hw3 hp1
  have l0 := HX2.out.c0
  have l1 := HX2.out.c1
  go_upto_region 6 with fail
  go_quiet (fail)
  have HX3 := hide (HX2.out.below (below_dn w2 nq w2.heap.size))
  have HR3 := hide (HR2.out.keep (S := fun _ => False) ((Ex.refl _ w2).drewN nq) (fun e => e))
  have HT3 := hide (HT.out.keep (S := fun _ => False) ((Ex.refl _ w2).drewN nq) (fun e => e))
  have HE3 : Hid (Ex (fun k => k = p) w (w2.drewN nq)) := HE2.out.drewN nq
  clear l0 l1 HX2 HR2 HT HE2
  generalize w2.drewN nq = w3 at *
  have HX2 := HX3
  have HR2 := HR3
  have HT := HT3
  have HE2 := HE3
  clear HX3 HR3 HT3 HE3
  have l0 := HX2.out.c0
  have l1 := HX2.out.c1
  obtain ⟨g, off, ha, cx⟩ := HX2.out.src q c HC.out
  subst ha
  have hki : (q : Int) < (s.length : Int) := by omega
  go_upto_region 8 with fail
  go_quiet (fail)
  have HX3 := hide (HX2.out.below (below_dn w3 nq w3.heap.size))
  have HR3 := hide (HR2.out.keep (S := fun _ => False) ((Ex.refl _ w3).drewN nq) (fun e => e))
  have HT3 := hide (HT.out.keep (S := fun _ => False) ((Ex.refl _ w3).drewN nq) (fun e => e))
  have HE3 : Hid (Ex (fun k => k = p) w (w3.drewN nq)) := HE2.out.drewN nq
  clear l0 l1 cx HX2 HR2 HT HE2
  generalize w3.drewN nq = w4 at *
  have HX2 := HX3
  have HR2 := HR3
  have HT := HT3
  have HE2 := HE3
  clear HX3 HR3 HT3 HE3
  have HR1 : Hid (w.heap.size ≤ r1) := by have := HRR.out; show _ ≤ _; omega
  go_wp2_with (first | (go_at_call 86; refine (isDigit_any _ c).mono ?_; rintro e wq ⟨rfl, rfl⟩; rw [HD.out]; simp only []) | (go_at_call 89; refine (isLetter_any _ c).mono ?_; rintro e wq ⟨rfl, rfl⟩; rw [HLT.out]; simp only []))
  refine (mark_asg _ p _ cp s q HX2.out hl (by rw [HC.out, H6.out]) HD1.out).mono ?_
  rintro e w5 ⟨rfl, hex, hlx⟩
  have HR3 := hide (HR2.out.keep hex (by omega))
  have HT3 := hide (HT.out.keep hex (by omega))
  have HE3 := hide (HE2.out.trans hex)
  have HX3 := hide hlx
  clear HR2 HT HE2 HX2 hex hlx
  have hne : ((strOfNums [58, 61]).toList == []) = false := by rw [ByteArray.toList_eq]; rfl
  obtain ⟨x, hx⟩ : ∃ x, strOfNums [58, 61] = x := ⟨_, rfl⟩
  rw [hx] at hne ⊢
  have HXX := hide hx
  clear hx
  have T0 := HT3.out.c0
  have TF0 := HT3.out.f0
  have T1 := HT3.out.c1
  have TF1 := HT3.out.f1
  try simp only []
  go_upto_region 13 with fail
  have hx4 := ((HX3.out.otherN HX00.out HR1.out 0 (.int .i64 5)).otherN HX00.out HR1.out 1 (.string x))
  have ht4 := ((HT3.out.put0 (5)).put1 (x))
  have hr4 := HR3.out.keep (((Ex.refl (fun k => k = r1) w5).set (p := r1) (j := 0) rfl (.int .i64 5)).set (p := r1) (j := 1) rfl (.string x)) (by omega)
  have he4 := ((HE3.out.setNew (p := r1) (j := 0) HR1.out (.int .i64 5)).setNew (p := r1) (j := 1) HR1.out (.string x))
  generalize ((w5.setCell ⟨r1, 0, none⟩ (.int .i64 5)).setCell ⟨r1, 1, none⟩ (.string x)) = w6 at *
  have HX4 := hide hx4
  have HT4 := hide ht4
  have HR4 := hide hr4
  have HE4 := hide he4
  clear hx4 ht4 hr4 he4 HX3 HT3 HR3 HE3
  clear T0 TF0 T1 TF1
  have R0 := HR4.out.c0
  have R1 := HR4.out.c1
  have R2 := HR4.out.c2
  have R3 := HR4.out.c3
  have R4 := HR4.out.c4
  have R5 := HR4.out.c5
  have F0 := HR4.out.f0
  have F1 := HR4.out.f1
  have F2 := HR4.out.f2
  have F3 := HR4.out.f3
  have F4 := HR4.out.f4
  have F5 := HR4.out.f5
  have T0 := HT4.out.c0
  have T1 := HT4.out.c1
  have T2 := HT4.out.c2
  have T3 := HT4.out.c3
  have T4 := HT4.out.c4
  have T5 := HT4.out.c5
  have HXF := fun (y0 y1 y2 y3 y4 y5 : Value) => hide (((((((HX4.out.otherN HX00.out HRR.out 0 y0).otherN HX00.out HRR.out 1 y1).otherN HX00.out HRR.out 2 y2).otherN HX00.out HRR.out 3 y3).otherN HX00.out HRR.out 4 y4).otherN HX00.out HRR.out 5 y5))
  have HEF := fun (y0 y1 y2 y3 y4 y5 : Value) => hide ((((((HE4.out.setNew (p := r0) (j := 0) HRR.out y0).setNew (p := r0) (j := 1) HRR.out y1).setNew (p := r0) (j := 2) HRR.out y2).setNew (p := r0) (j := 3) HRR.out y3).setNew (p := r0) (j := 4) HRR.out y4).setNew (p := r0) (j := 5) HRR.out y5)
  go_wp2
  exact bodyPost_ret (v := .agg #[.int .i64 5, .string x, .int .i64 0, .int .i64 0, .int .i64 1, .int .i64 ((q : Int) + 1)]) (by simp [results, Try.results70, go_sem, R0, R1, R2, R3, R4, R5]) rfl ⟨by rw [HXX.out], (HEF _ _ _ _ _ _).out, (HXF _ _ _ _ _ _).out⟩
end Go.Proofs.Qxb6500774a
