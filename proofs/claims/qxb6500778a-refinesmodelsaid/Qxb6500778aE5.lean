import Derived.Test.Qxb6500778aE4
namespace Go.Proofs.Qxb6500778a
open Go.RowKit

theorem wb_ne {c : Int} (h : wbP c = true) : (c == 47) = false ∧ (c == 123) = false ∧ (c == 125) = false := by
  simp only [wbP, dgP, Bool.or_eq_true, decide_eq_true_eq] at h
  simp only [beq_eq_false_iff_ne, ne_eq]
  omega
theorem SrcAt.part {w : World} {b off : Nat} {s : List Int} (h : SrcAt w (some ⟨b, off, none⟩) s) (q : Nat) (l : List Int) (hl : ∀ (i : Nat) c, l[i]? = some c → s[q + i]? = some c) : SrcAt w (some ⟨b, off + q, none⟩) l := fun i c hc => by
  obtain ⟨b', off', e, hx⟩ := h (q + i) c (hl i c hc)
  injection e with e
  injection e with e1 e2
  subst e1 e2
  exact ⟨b, off + q, rfl, by rw [Nat.add_assoc]; exact hx⟩
set_option maxRecDepth 100000 in
set_option maxHeartbeats 4000000 in
theorem next_word {R : Nat → Option Value} (w : World) (p : Nat) (a : Option Addr) (cp : Nat) (s : List Int) (o q : Nat) (h : LX R w p a cp s o) (ho : o ≤ s.length) (hl : s.length ≤ 9223372036854775807) (hq : o + skS false (s.drop o) = q) (hcp : s.length ≤ cp) (c : Int) (hc : s[q]? = some c) (hw : wbP c = true) (n : Nat) (hn : n = wlW (s.drop q)) (wd : List Int) (hwd : wd = (s.drop q).take n) :
    Calls Try.prog 51 #[.pointer (some ⟨p, 0, none⟩)] w fun e w' => e = .returned (tokV (wdT c q wd)) ∧ Ex (fun k => k = p) w w' ∧ LX R w' p a cp s (q + n) := by
  have hlt : q < s.length := (List.getElem?_eq_some_iff.1 hc).1
  have d1 : decide (s.length ≤ q) = false := decide_eq_false (by omega)
  have HC := hide hc
  clear hc
  obtain ⟨e1, e2, e3⟩ := wb_ne hw
  have hn1 : 1 ≤ n := by rw [hn, drop_cons HC.out, wlW, if_pos hw]; omega
  have hnl : q + n ≤ s.length := by have := wlW_le (s.drop q); rw [List.length_drop] at this; omega
  have hwl : wd.length = n := by rw [hwd, List.length_take, List.length_drop]; omega
  have HWD : Hid (∀ (i : Nat) x, wd[i]? = some x → s[q + i]? = some x) := fun i x hx => by
    rw [hwd, List.getElem?_take] at hx
    split at hx
    · rwa [List.getElem?_drop] at hx
    · cases hx
  have HN := hide hn
  have HW := hide hw
  have HWL := hide hwl
  clear hw hn hwd hwl
  have hqs : q ≤ s.length := by rw [← hq]; exact q_le s o ho
  have HX := hide h
  clear h
  go_enter Try.func51, Try.ntmps51
  go_wp2_with fail
  have hr0 := TB.new w ⟨0, 0, ⟨#[]⟩, 0⟩
  have HX0 := hide (HX.out.new ((Ex.refl _ w).alloc (.cells #[.int .i64 0, .int .i64 0, .string ⟨#[]⟩, .int .i64 0] 87)))
  have HE0 : Hid (Ex (fun k => k = p) w (w.alloc (.cells #[.int .i64 0, .int .i64 0, .string ⟨#[]⟩, .int .i64 0] 87))) := (Ex.refl _ _).alloc _
  have hpr : p < w.heap.size := World.block_lt_of_cell? _ _ HX.out.c0
  obtain ⟨r0, hrr⟩ : ∃ r, w.heap.size = r := ⟨_, rfl⟩
  have HRR : Hid (w.heap.size ≤ r0) := by rw [← hrr]; exact Nat.le_refl _
  rw [hrr] at hr0 hpr ⊢
  refine (skip_any _ p a cp s o HX0.out ho hl).mono ?_
  rintro e w1 ⟨rfl, hex, hlx⟩
  simp only []
  rw [hq] at hlx
  have hR := hr0.keep hex (by omega)
  have hr1 : r0 < w1.heap.size := World.block_lt_of_cell? _ _ hR.c0
  have HX00 := HX
  have hs2 := (Ex.refl (fun _ => False) w1).alloc (.cells #[.int .i64 0, .int .i64 (q : Int), .string ⟨#[]⟩, .int .i64 0] 87)
  have HX2 := hide (hlx.new hs2)
  have HR2 := hide (hR.keep hs2 (fun e => e))
  have HT : Hid (TB (w1.alloc (.cells #[.int .i64 0, .int .i64 (q : Int), .string ⟨#[]⟩, .int .i64 0] 87)) w1.heap.size ⟨0, q, ⟨#[]⟩, 0⟩) := TB.new w1 ⟨0, q, ⟨#[]⟩, 0⟩
  have HE2 := hide ((HE0.out.trans hex).trans2 hs2 (fun j e => e.elim))
  have l1 := hlx.c1
  clear hr0 hrr HX HX0 HE0 hex hR hs2 hlx
  go_upto_region 3 with fail
  generalize w1.alloc (.cells #[.int .i64 0, .int .i64 (q : Int), .string ⟨#[]⟩, .int .i64 0] 87) = w2 at *
  generalize w1.heap.size = r1 at *
  clear l1
  have HR1 : Hid (w.heap.size ≤ r1) := by have := HRR.out; show _ ≤ _; omega
  have l0 := HX2.out.c0
  have l1 := HX2.out.c1
  go_upto_region 3 with fail
  go_quiet (fail)
  have HX3 := hide (HX2.out.drewN nq)
  have HR3 := hide (HR2.out.keep (S := fun _ => False) ((Ex.refl _ w2).drewN nq) (fun e => e))
  have HT3 := hide (HT.out.keep (S := fun _ => False) ((Ex.refl _ w2).drewN nq) (fun e => e))
  have HE3 : Hid (Ex (fun k => k = p) w (w2.drewN nq)) := HE2.out.drewN nq
  clear l0 l1 HX2 HR2 HT HE2
  generalize w2.drewN nq = w3 at *
  have HX2 := HX3
  have HR2 := HR3
  have HT := HT3
  have HE2 := HE3
  clear HX3 HR3 HT3 HE3
  have l0 := HX2.out.c0
  have l1 := HX2.out.c1
  obtain ⟨g, off, ha, cx⟩ := HX2.out.src q c HC.out
  subst ha
  have hki : (q : Int) < (s.length : Int) := by omega
  go_upto_region 5 with fail
  go_quiet (fail)
  have HX3 := hide (HX2.out.drewN nq)
  have HR3 := hide (HR2.out.keep (S := fun _ => False) ((Ex.refl _ w3).drewN nq) (fun e => e))
  have HT3 := hide (HT.out.keep (S := fun _ => False) ((Ex.refl _ w3).drewN nq) (fun e => e))
  have HE3 : Hid (Ex (fun k => k = p) w (w3.drewN nq)) := HE2.out.drewN nq
  clear l0 l1 cx HX2 HR2 HT HE2
  generalize w3.drewN nq = w4 at *
  have HX2 := HX3
  have HR2 := HR3
  have HT := HT3
  have HE2 := HE3
  clear HX3 HR3 HT3 HE3
  have T0 := HT.out.c0
  have HWB := hide (isWordByte_any w4 c)
  rw [HW.out] at HWB
  go_upto_block 1 with (go_at_call 73; refine (HWB.out).mono ?_; rintro e wq ⟨rfl, rfl⟩; simp only [])
  clear T0 HWB e1 e2 e3
  go_cut [85] (fun _ wx => Hid (LX R wx p (some ⟨g, off, none⟩) cp s (q + n)) ∧ Hid (TB wx r1 ⟨0, q, ⟨#[]⟩, 0⟩) ∧ Hid (TB wx r0 ⟨0, 0, ⟨#[]⟩, 0⟩) ∧ Hid (Ex (fun k => k = p) w wx))
  case first =>
   go_wp2_with fail
   go_loopw [86] (fun _ wr => ∃ (k : Nat), Hid (q ≤ k ∧ k ≤ s.length ∧ k + wlW (s.drop k) = q + n) ∧ Hid (LX R wr p (some ⟨g, off, none⟩) cp s k) ∧ Hid (TB wr r1 ⟨0, q, ⟨#[]⟩, 0⟩) ∧ Hid (TB wr r0 ⟨0, 0, ⟨#[]⟩, 0⟩) ∧ Hid (Ex (fun k => k = p) w wr)) (fun _ wr => s.length - offOf wr p)
   case atStart => exact ⟨q, ⟨Nat.le_refl _, hqs, by rw [← HN.out]⟩, HX2, HT, HR2, HE2⟩
   case round =>
     clear HX2 HT HR2 HE2
     obtain ⟨k, HK, HX2, HT, HR2, HE2⟩ := hrel
     obtain ⟨hqk, hk, hkb⟩ := HK.out
     have HOF := hide HX2.out.offOf
     have l0 := HX2.out.c0
     have l1 := HX2.out.c1
     by_cases hlt2 : k < s.length
     · have d2 : decide ((k : Int) < (s.length : Int)) = true := decide_eq_true (by omega)
       have hki2 : (k : Int) < (s.length : Int) := by omega
       obtain ⟨c2, hc2⟩ : ∃ c, s[k]? = some c := ⟨_, List.getElem?_eq_getElem hlt2⟩
       obtain ⟨g2, off2, ha2, cx2⟩ := HX2.out.src k c2 hc2
       obtain ⟨rfl, rfl⟩ : g = g2 ∧ off = off2 := by injection ha2 with ha2; injection ha2 with q1 q2; exact ⟨q1, q2⟩
       obtain ⟨bw, hbw⟩ : ∃ b, wbP c2 = b := ⟨_, rfl⟩
       have HWB : ∀ m, Hid (Calls Try.prog 73 #[.int .u8 c2] (wr.drewN m) fun e w' => e = .returned (.bool bw) ∧ w' = wr.drewN m) := fun m => by
         have := isWordByte_any (wr.drewN m) c2
         rw [hbw] at this
         exact this.mono fun e w' ⟨h1, h2⟩ => ⟨h1, h2.symm⟩
       cases bw
       · have HKE : Hid (k = q + n) := by show _ = _; rw [← hkb, drop_cons hc2, wlW, if_neg (by rw [hbw]; decide)]; rfl
         clear hbw hc2 hkb
         go_wp2_with fail
         go_quiet (first | (go_at_call 73; refine Calls.quiet_of_same (HWB _).out))
         have hx3 := HX2.out.drewN nq
         rw [HKE.out] at hx3
         have HX3 := hide hx3
         have HR3 := hide (HR2.out.keep (S := fun _ => False) ((Ex.refl _ wr).drewN nq) (fun e => e))
         have HT3 := hide (HT.out.keep (S := fun _ => False) ((Ex.refl _ wr).drewN nq) (fun e => e))
         have HE3 : Hid (Ex (fun k => k = p) w (wr.drewN nq)) := HE2.out.drewN nq
         clear hx3 HX2 HR2 HT HE2 l0 l1 HWB cx2 d2
         go_wp2
         go_meet
         case rel => exact ⟨HX3, HT3, HR3, HE3⟩
       · have HK2 : Hid (q ≤ k + 1 ∧ k + 1 ≤ s.length ∧ k + 1 + wlW (s.drop (k + 1)) = q + n) := ⟨by omega, by omega, by rw [← hkb, drop_cons hc2, wlW, if_pos hbw]; omega⟩
         clear hbw hc2 hkb
         go_wp2_with fail
         go_quiet (first | (go_at_call 73; refine Calls.quiet_of_same (HWB _).out))
         have HX3 := hide (HX2.out.drewN nq)
         have HR3 := hide (HR2.out.keep (S := fun _ => False) ((Ex.refl _ wr).drewN nq) (fun e => e))
         have HT3 := hide (HT.out.keep (S := fun _ => False) ((Ex.refl _ wr).drewN nq) (fun e => e))
         have HE3 : Hid (Ex (fun k => k = p) w (wr.drewN nq)) := HE2.out.drewN nq
         clear HWB HX2 HR2 HT HE2 l0 l1 cx2 d2
         generalize wr.drewN nq = w5 at *
         have l1 := HX3.out.c1
         have lf1 := HX3.out.fz 1
         have hwk : IntKind.i64.wrap ((k : Int) + 1) = ((k + 1 : Nat) : Int) := by rw [IntKind.wrap_i64]; omega
         have hs6 := (Ex.refl (fun k => k = p) w5).set (p := p) (j := 1) rfl (.int .i64 ((k + 1 : Nat) : Int))
         have hx6 := HX3.out.off (k + 1)
         have hr6 := HR3.out.keep hs6 (by omega)
         have ht6 := HT3.out.keep hs6 (by omega)
         have he6 := HE3.out.trans hs6
         rw [show ((k + 1 : Nat) : Int) = (k : Int) + 1 by omega] at hx6 hr6 ht6 he6
         have HX6 := hide hx6
         have HR6 := hide hr6
         have HT6 := hide ht6
         have HE6 := hide he6
         clear hs6 hx6 hr6 ht6 he6 HX3 HR3 HT3 HE3
         go_wp2
         go_roundw
         case rel => exact ⟨k + 1, HK2, HX6, HT6, HR6, HE6⟩
         case measure => rw [HX6.out.offOf, HOF.out]; omega
     · have d2 : decide ((k : Int) < (s.length : Int)) = false := decide_eq_false (by omega)
       have HKE : Hid (k = q + n) := by show _ = _; rw [← hkb, List.drop_eq_nil_of_le (by omega)]; rfl
       clear hkb
       go_wp2_with fail
       go_quiet (fail)
       have hx3 := HX2.out.drewN nq
       rw [HKE.out] at hx3
       have HX3 := hide hx3
       have HR3 := hide (HR2.out.keep (S := fun _ => False) ((Ex.refl _ wr).drewN nq) (fun e => e))
       have HT3 := hide (HT.out.keep (S := fun _ => False) ((Ex.refl _ wr).drewN nq) (fun e => e))
       have HE3 : Hid (Ex (fun k => k = p) w (wr.drewN nq)) := HE2.out.drewN nq
       clear hx3 HX2 HR2 HT HE2 l0 l1 d2
       go_wp2
       go_meet
       case rel => exact ⟨HX3, HT3, HR3, HE3⟩
  clear HX2 HT HR2 HE2
  obtain ⟨HX3, HT3, HR3, HE3⟩ := hcut
  generalize wc = w5 at *
  have l0 := HX3.out.c0
  have l1 := HX3.out.c1
  have t1 := HT3.out.c1
  have hb1 : (q : Int) ≤ ((q + n : Nat) : Int) := by omega
  have hb2 : ((q + n : Nat) : Int) ≤ (cp : Int) := by omega
  go_upto_region 20 with fail
  go_quiet (fail)
  have hqn : q + n - q = n := by omega
  rw [hqn]
  have HX6 := hide (HX3.out.drewN nq)
  have HR6 := hide (HR3.out.keep (S := fun _ => False) ((Ex.refl _ w5).drewN nq) (fun e => e))
  have HT6 := hide (HT3.out.keep (S := fun _ => False) ((Ex.refl _ w5).drewN nq) (fun e => e))
  have HE6 : Hid (Ex (fun k => k = p) w (w5.drewN nq)) := HE3.out.drewN nq
  clear HX3 HR3 HT3 HE3 l0 l1 t1 hb1 hb2 hqn
  generalize w5.drewN nq = w6 at *
  have t0 := HT6.out.c0
  have tf0 := HT6.out.fz 0
  go_upto_region 22 with fail
  have hs7 := (Ex.refl (fun k => k = r1) w6).set (p := r1) (j := 0) rfl (.int .i64 1)
  have HX7 := hide (HX6.out.otherN HX00.out HR1.out 0 (.int .i64 1))
  have HT7 := hide (HT6.out.put0 1)
  have HR7 := hide (HR6.out.keep hs7 (by omega))
  have HE7 := hide (HE6.out.trans2 hs7 (fun j e => .inr (by have := HR1.out; omega)))
  generalize w6.setCell ⟨r1, 0, none⟩ (.int .i64 1) = w7 at *
  clear hs7 HX6 HT6 HR6 HE6 t0 tf0
  have hsr := HX7.out.src.part q wd HWD.out
  have hcv := run_convert_bytes_arg (P := Try.prog) w7 46 5 Try.underlying46 Try.underlying5 g (off + q) n (cp - q) wd HWL.out (fun i hi => by
    obtain ⟨y, hy⟩ : ∃ y, wd[i]? = some y := ⟨_, List.getElem?_eq_getElem (by have := HWL.out; omega)⟩
    obtain ⟨b', off', e', hx'⟩ := hsr i y hy
    injection e' with e'
    injection e' with e1 e2
    subst e1 e2
    rw [hx', List.getD_eq_getElem?_getD, hy, Option.getD_some]) 9 Try.underlying9
  have t2 := HT7.out.c2
  have tf2 := HT7.out.fz 2
  clear hsr
  go_upto_region 23 with fail
  clear hcv
  have hs8 := (Ex.refl (fun k => k = r1) w7).set (p := r1) (j := 2) rfl (.string (strOfNums wd))
  have HX8 := hide (HX7.out.otherN HX00.out HR1.out 2 (.string (strOfNums wd)))
  have HT8 := hide (HT7.out.put2 (strOfNums wd))
  have HR8 := hide (HR7.out.keep hs8 (by omega))
  have HE8 := hide (HE7.out.trans2 hs8 (fun j e => .inr (by have := HR1.out; omega)))
  generalize w7.setCell ⟨r1, 2, none⟩ (.string (strOfNums wd)) = w8 at *
  clear hs8 HX7 HT7 HR7 HE7 t2 tf2
  have HD1 := hide (digits_any w8 (some ⟨g, off + q, none⟩) (cp - q) wd (HX8.out.src.part q wd HWD.out) (by have := HWL.out; omega))
  have HD2 := fun cc => hide (digits_any w8 (some ⟨g, off + q + 1, none⟩) cc (wd.drop 1) (by
    have := HX8.out.src.part (q + 1) (wd.drop 1) (fun i x hx => by rw [List.getElem?_drop] at hx; have := HWD.out _ x hx; rw [← Nat.add_assoc] at this; exact this)
    rwa [← Nat.add_assoc] at this) (by rw [List.length_drop]; have := HWL.out; omega))
  have HD3 := fun aa cc (h0 : wd.drop 1 = []) => hide (digits_any w8 aa cc (wd.drop 1) (by rw [h0]; intro i x hx; cases hx) (by rw [List.length_drop]; have := HWL.out; omega))
  have hdl : (wd.drop 1).length = n - 1 := by rw [List.length_drop, HWL.out]
  rw [HWL.out] at HD1
  rw [hdl] at HD2 HD3
  have HDL := hide hdl
  clear hdl
  obtain ⟨v1, hv1⟩ : ∃ v, dgV wd = v := ⟨_, rfl⟩
  obtain ⟨v2, hv2⟩ : ∃ v, dgV (wd.drop 1) = v := ⟨_, rfl⟩
  obtain ⟨b1, hb1⟩ : ∃ b, dgB wd = b := ⟨_, rfl⟩
  obtain ⟨b2, hb2⟩ : ∃ b, dgB (wd.drop 1) = b := ⟨_, rfl⟩
  obtain ⟨br, hbr⟩ : ∃ b, (c == 114) = b := ⟨_, rfl⟩
  have HWT : Hid (wdT c q wd = if b1 = true then ⟨2, q, strOfNums wd, v1⟩ else if (b2 && br) = true then ⟨3, q, strOfNums wd, v2⟩ else ⟨1, q, strOfNums wd, 0⟩) := by
    show _ = _
    unfold wdT
    rw [hv1, hv2, hb1, hb2, hbr]
  rw [hv1, hb1] at HD1
  rw [hv2, hb2] at HD2 HD3
  clear hv1 hv2 hb1 hb2
  have t0 := HT8.out.c0
  have tf0 := HT8.out.fz 0
  have t3 := HT8.out.c3
  have tf3 := HT8.out.fz 3
  go_upto_if 113 with (go_at_call 74; refine (HD1.out).mono ?_; rintro e wq ⟨rfl, rfl⟩; simp only [])
  clear HD1
  go_cut [5, 114] (fun _ _ wx => Hid (LX R wx p (some ⟨g, off, none⟩) cp s (q + n)) ∧ Hid (TB wx r1 (wdT c q wd)) ∧ Hid (TB wx r0 ⟨0, 0, ⟨#[]⟩, 0⟩) ∧ Hid (Ex (fun k => k = p) w wx))
  case first =>
    cases b1
    · rw [if_neg (by decide)] at HWT
      have hn0 : (1 : Int) ≤ (n : Int) := by omega
      by_cases hc1 : cp - q = 1
      · have hn1e : n = 1 := by omega
        have hdn : wd.drop 1 = [] := List.length_eq_zero_iff.1 (by rw [HDL.out]; omega)
        subst hn1e
        have HDX : Hid (Calls Try.prog 74 #[.slice (some ⟨g, off + q, none⟩) 0 0] w8 fun e w' => e = .returned (.tuple #[.int .i64 v2, .bool b2]) ∧ w8 = w') := HD3 (some ⟨g, off + q, none⟩) 0 hdn
        clear HD2 HD3 hdn
        rw [hc1]
        clear hc1
        go_wp2_with fail
        refine (HDX.out).mono ?_
        rintro e wq ⟨rfl, rfl⟩
        simp only []
        have HT9 : b2 = false ∨ br = false → Hid (TB w8 r1 (wdT c q wd)) := fun h => by
          rw [HWT.out, if_neg (by rcases h with rfl | rfl <;> simp)]; exact HT8.out
        cases b2
        · have HT10 := HT9 (.inl rfl)
          clear HT9 HWT HDX
          go_wp2
          go_meet
          case rel => exact ⟨HX8, HT10, HR8, HE8⟩
        · cases br
          · have HT10 := HT9 (.inr rfl)
            clear HT9 HWT HDX
            go_wp2
            go_meet
            case rel => exact ⟨HX8, HT10, HR8, HE8⟩
          · rw [Bool.and_true, if_pos rfl] at HWT
            clear HT9 HDX
            have hs9 := ((Ex.refl (fun k => k = r1) w8).set (p := r1) (j := 0) rfl (.int .i64 3)).set (p := r1) (j := 3) rfl (.int .i64 v2)
            have HX9 := hide ((HX8.out.otherN HX00.out HR1.out 0 (.int .i64 3)).otherN HX00.out HR1.out 3 (.int .i64 v2))
            have ht9 := (HT8.out.put0 3).put3 v2
            have HR9 := hide (HR8.out.keep hs9 (by omega))
            have HE9 := hide (HE8.out.trans2 hs9 (fun j e => .inr (by have := HR1.out; omega)))
            have HT9 : Hid (TB ((w8.setCell ⟨r1, 0, none⟩ (.int .i64 3)).setCell ⟨r1, 3, none⟩ (.int .i64 v2)) r1 (wdT c q wd)) := by rw [HWT.out]; exact ht9
            clear hs9 ht9 HX8 HT8 HR8 HE8
            go_wp2
            go_meet
            case rel => exact ⟨HX9, HT9, HR9, HE9⟩
      · have HDX := HD2 (cp - q - 1)
        clear HD3 HD2
        go_wp2_with fail
        refine (HDX.out).mono ?_
        rintro e wq ⟨rfl, rfl⟩
        simp only []
        have HT9 : b2 = false ∨ br = false → Hid (TB w8 r1 (wdT c q wd)) := fun h => by
          rw [HWT.out, if_neg (by rcases h with rfl | rfl <;> simp)]; exact HT8.out
        cases b2
        · have HT10 := HT9 (.inl rfl)
          clear HT9 HWT HDX
          go_wp2
          go_meet
          case rel => exact ⟨HX8, HT10, HR8, HE8⟩
        · cases br
          · have HT10 := HT9 (.inr rfl)
            clear HT9 HWT HDX
            go_wp2
            go_meet
            case rel => exact ⟨HX8, HT10, HR8, HE8⟩
          · rw [Bool.and_true, if_pos rfl] at HWT
            clear HT9 HDX
            have hs9 := ((Ex.refl (fun k => k = r1) w8).set (p := r1) (j := 0) rfl (.int .i64 3)).set (p := r1) (j := 3) rfl (.int .i64 v2)
            have HX9 := hide ((HX8.out.otherN HX00.out HR1.out 0 (.int .i64 3)).otherN HX00.out HR1.out 3 (.int .i64 v2))
            have ht9 := (HT8.out.put0 3).put3 v2
            have HR9 := hide (HR8.out.keep hs9 (by omega))
            have HE9 := hide (HE8.out.trans2 hs9 (fun j e => .inr (by have := HR1.out; omega)))
            have HT9 : Hid (TB ((w8.setCell ⟨r1, 0, none⟩ (.int .i64 3)).setCell ⟨r1, 3, none⟩ (.int .i64 v2)) r1 (wdT c q wd)) := by rw [HWT.out]; exact ht9
            clear hs9 ht9 HX8 HT8 HR8 HE8
            go_wp2
            go_meet
            case rel => exact ⟨HX9, HT9, HR9, HE9⟩
    · rw [if_pos rfl] at HWT
      clear HD2 HD3
      have hs9 := ((Ex.refl (fun k => k = r1) w8).set (p := r1) (j := 0) rfl (.int .i64 2)).set (p := r1) (j := 3) rfl (.int .i64 v1)
      have HX9 := hide ((HX8.out.otherN HX00.out HR1.out 0 (.int .i64 2)).otherN HX00.out HR1.out 3 (.int .i64 v1))
      have ht9 := (HT8.out.put0 2).put3 v1
      have HR9 := hide (HR8.out.keep hs9 (by omega))
      have HE9 := hide (HE8.out.trans2 hs9 (fun j e => .inr (by have := HR1.out; omega)))
      have HT9 : Hid (TB ((w8.setCell ⟨r1, 0, none⟩ (.int .i64 2)).setCell ⟨r1, 3, none⟩ (.int .i64 v1)) r1 (wdT c q wd)) := by rw [HWT.out]; exact ht9
      clear hs9 ht9 HX8 HT8 HR8 HE8
      go_wp2
      go_meet
      case rel => exact ⟨HX9, HT9, HR9, HE9⟩
  obtain ⟨HX9, HT9, HR9, HE9⟩ := hcut
  clear HX8 HT8 HR8 HE8 t0 tf0 t3 tf3 HD2 HD3 HWT
  generalize wc = w9 at *
  obtain ⟨tt, htt⟩ : ∃ t, wdT c q wd = t := ⟨_, rfl⟩
  rw [htt] at HT9
  have HTT := hide htt
  clear htt
  obtain ⟨tk, tq, tx, tv⟩ := tt
  have R0 := HR9.out.c0
  have F0 := HR9.out.fz 0
  have T0 := HT9.out.c0
  have R1 := HR9.out.c1
  have F1 := HR9.out.fz 1
  have T1 := HT9.out.c1
  have R2 := HR9.out.c2
  have F2 := HR9.out.fz 2
  have T2 := HT9.out.c2
  have R3 := HR9.out.c3
  have F3 := HR9.out.fz 3
  have T3 := HT9.out.c3
  have HXF := fun (y0 y1 y2 y3 : Value) => hide ((((HX9.out.otherN HX00.out HRR.out 0 y0).otherN HX00.out HRR.out 1 y1).otherN HX00.out HRR.out 2 y2).otherN HX00.out HRR.out 3 y3)
  have HEF := fun (y0 y1 y2 y3 : Value) => hide ((((HE9.out.setNew (p := r0) (j := 0) HRR.out y0).setNew (p := r0) (j := 1) HRR.out y1).setNew (p := r0) (j := 2) HRR.out y2).setNew (p := r0) (j := 3) HRR.out y3)
  go_wp2
  exact bodyPost_ret (v := tokV ⟨tk, tq, tx, tv⟩) (by simp [results, Try.results51, go_sem, tokV, R0, R1, R2, R3]) rfl ⟨by rw [HTT.out], (HEF _ _ _ _).out, (HXF _ _ _ _).out⟩
end Go.Proofs.Qxb6500778a
