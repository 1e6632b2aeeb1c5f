import Derived.Test.Qxb6500774aGr4
import Derived.Test.Qxb6500774aGr3
namespace Go.Proofs.Qxb6500774a
open Go.RowKit

section
variable {B p : Nat} {a : Option Addr} {cp : Nat} {s : List Int}
set_option maxRecDepth 100000 in
set_option maxHeartbeats 4000000 in
/-- parser.operand at NOT or a minus sign -/
theorem operand_un {r : List It} {n : Tk} (hE : OperandOk B p a cp s r n) {w : World} {d : Int} {t v : Tk} {M : List Tk} (hok : (It.un t).Ok) (hd : 0 ≤ d ∧ d ≤ 64) (hv : Stop v) (hat : At B p a cp s w d (t :: (toks r n ++ v :: M))) :
    Calls Try.prog 77 #[.pointer (some ⟨p, 0, none⟩)] w (RetX p w fun w' => Out B p a cp s w' d (v :: M) (deepAt (It.un t :: r) d)) := by
  obtain ⟨hu, hul⟩ := hok
  have HUL := hide hul
  have HU := hide hu
  have HK5 : Hid (t.k = 5) := by rcases hu with h | h <;> exact isM_k h
  have HEE := hide hE
  have HV := hide hv
  clear hul hu hE hv
  obtain ⟨y, L0, hL⟩ := toks_cons r n (v :: M)
  obtain ⟨L, hLL⟩ : ∃ L, y :: L0 = L := ⟨_, rfl⟩
  rw [hL, hLL] at hat
  rw [hLL] at hL
  have HLL := hide hLL
  have HL := hide hL
  clear hLL hL
  obtain ⟨o, hps, hst⟩ := hat
  have hat0 : At B p a cp s w d (t :: L) := ⟨o, hps, hst⟩
  have hb : B ≤ w.heap.size ∧ p < B := ⟨hps.hB, hps.hp⟩
  have H0 := hide hat0
  have hps1 := hps.new (.cells #[.int .i64 0, .string ⟨#[]⟩, .int .i64 0, .string ⟨#[]⟩, .slice none 0 0, .int .i64 0, .int .i64 0] 47)
  have c6 := hps1.c6
  have c8 := hps1.c8
  have c9 := hps1.c9
  have hpl : p < w.heap.size := World.block_lt_of_cell? _ _ hps.c4
  have hpl1 : p < (w.alloc (.cells #[.int .i64 0, .string ⟨#[]⟩, .int .i64 0, .string ⟨#[]⟩, .slice none 0 0, .int .i64 0, .int .i64 0] 47)).heap.size := by simp; omega
  clear hat0 hps hst
  go_enter Try.func77, Try.ntmps77
  go_upto_region 1 with fail
  have hr0 := (XB.new w ⟨0, ⟨#[]⟩, 0, ⟨#[]⟩, none, 0, 0, 0, 0⟩).keep (S := fun _ => False) (((Ex.refl _ _).alloc (.cells #[.int .i64 0, .string ⟨#[]⟩, .int .i64 t.v, .string ⟨#[]⟩, .slice none 0 0, .int .i64 t.l, .int .i64 t.c] 47)).drew) (fun e => e)
  have hr1 := (XB.new (w.alloc (.cells #[.int .i64 0, .string ⟨#[]⟩, .int .i64 0, .string ⟨#[]⟩, .slice none 0 0, .int .i64 0, .int .i64 0] 47)) ⟨0, ⟨#[]⟩, t.v, ⟨#[]⟩, none, 0, 0, t.l, t.c⟩).keep (S := fun _ => False) ((Ex.refl _ _).drew) (fun e => e)
  rw [show (w.alloc (.cells #[.int .i64 0, .string ⟨#[]⟩, .int .i64 0, .string ⟨#[]⟩, .slice none 0 0, .int .i64 0, .int .i64 0] 47)).heap.size = w.heap.size + 1 by simp] at hr1
  have HE2 : Hid (Ex (fun k => k = p) w ((w.alloc (.cells #[.int .i64 0, .string ⟨#[]⟩, .int .i64 0, .string ⟨#[]⟩, .slice none 0 0, .int .i64 0, .int .i64 0] 47)).alloc (.cells #[.int .i64 0, .string ⟨#[]⟩, .int .i64 t.v, .string ⟨#[]⟩, .slice none 0 0, .int .i64 t.l, .int .i64 t.c] 47)).drew) := (((Ex.refl _ _).alloc _).alloc _).drew
  have hat2 := H0.out.ex (S := fun _ => False) ((((Ex.refl _ w).alloc (.cells #[.int .i64 0, .string ⟨#[]⟩, .int .i64 0, .string ⟨#[]⟩, .slice none 0 0, .int .i64 0, .int .i64 0] 47)).alloc (.cells #[.int .i64 0, .string ⟨#[]⟩, .int .i64 t.v, .string ⟨#[]⟩, .slice none 0 0, .int .i64 t.l, .int .i64 t.c] 47)).drew) (fun _ e => e.elim)
  go_region
  generalize ((w.alloc (.cells #[.int .i64 0, .string ⟨#[]⟩, .int .i64 0, .string ⟨#[]⟩, .slice none 0 0, .int .i64 0, .int .i64 0] 47)).alloc (.cells #[.int .i64 0, .string ⟨#[]⟩, .int .i64 t.v, .string ⟨#[]⟩, .slice none 0 0, .int .i64 t.l, .int .i64 t.c] 47)).drew = w2 at *
  have HB0 : Hid (B ≤ w.heap.size) := hb.1
  obtain ⟨r0, hr0e⟩ : ∃ r, w.heap.size = r := ⟨_, rfl⟩
  have HRR : Hid (w.heap.size ≤ r0) := by rw [hr0e]; exact Nat.le_refl _
  rw [hr0e] at hr0 hr1 HB0 hpl ⊢
  clear hr0e c6 c8 c9 hpl1 hps1 H0
  have hb0 := HB0.out
  have HR0 := hide hr0
  have HR1 := hide hr1
  have HAT := hide hat2
  obtain ⟨o2, hps2, hst2⟩ := id hat2
  have c4 := hps2.c4
  have HPS := hide hps2
  clear hr0 hr1 hat2 hps2 hst2
  rw [HK5.out] at c4
  go_upto_region 6 with fail
  go_cut [32] (fun s32 wx => s32 = .bool true ∧ w2 = wx)
  case first =>
    rcases HU.out with h | h
    · have HI := hide h
      clear h
      go_wp2_with (go_at_call 72; refine (at_is HPS.out _ _ rfl).mono ?_; rintro e wq ⟨rfl, rfl⟩; simp only [HI.out])
      go_meet
      case rel => exact ⟨rfl, rfl⟩
    · have HI := hide h
      have HI2 := hide (isM_ne (y := ⟨#[78, 79, 84]⟩) h (by rw [ByteArray.toList_eq, ByteArray.toList_eq]; rfl))
      clear h
      go_wp2_with (go_at_call 72; refine (at_is HPS.out _ _ rfl).mono ?_; rintro e wq ⟨rfl, rfl⟩; simp only [HI.out, HI2.out])
      go_meet
      case rel => exact ⟨rfl, rfl⟩
  obtain ⟨rfl, rfl⟩ := hcut
  have k4 := HPS.out.c4
  rw [HK5.out] at k4
  have k5 := HPS.out.c5
  have T0 := HR1.out.c0
  have T1 := HR1.out.c1
  have T2 := HR1.out.c2
  have T3 := HR1.out.c3
  have T4 := HR1.out.c4
  have T5 := HR1.out.c5
  have T6 := HR1.out.c6
  have TF0 := HR1.out.fz 0
  have TF1 := HR1.out.fz 1
  have TF2 := HR1.out.fz 2
  have TF3 := HR1.out.fz 3
  have TF4 := HR1.out.fz 4
  have TF5 := HR1.out.fz 5
  have TF6 := HR1.out.fz 6
  go_upto_region 7 with fail
  go_region
  have hs3 := ((Ex.refl (fun k => k = r0 + 1) w2).set (p := r0 + 1) (j := 0) rfl (.int .i64 6)).set (p := r0 + 1) (j := 1) rfl (.string t.x)
  have hr1 := ((HR1.out.put0 6).put1 t.x).keep (S := fun _ => False) (Ex.refl _ _).drew (fun e => e)
  have hr0 := HR0.out.keep hs3.drew (by omega)
  have he3 := HE2.out.trans2 hs3.drew (fun j e => .inr (by have := HRR.out; omega))
  have hat3 := HAT.out.ex hs3.drew (fun k e => by omega)
  generalize ((w2.setCell ⟨r0 + 1, 0, none⟩ (.int .i64 6)).setCell ⟨r0 + 1, 1, none⟩ (.string t.x)).drew = w3 at *
  have HR13 := hide hr1
  have HR03 := hide hr0
  have HE3 := hide he3
  have HAT3 := hide hat3
  clear hs3 hr1 hr0 he3 hat3 HR1 HR0 HE2 HAT HPS c4 k4 k5 T0 T1 T2 T3 T4 T5 T6 TF0 TF1 TF2 TF3 TF4 TF5 TF6
  by_cases h64 : 64 ≤ d
  · have HOP := hide (open_deep HAT3.out h64 HK5.out)
    have HDD : Hid (deepAt (It.un t :: r) d = some t.c) := if_pos h64
    clear h64
    go_upto_if 47 with (go_at_call 94; refine (HOP.out).mono ?_; rintro e w4 ⟨rfl, hex, hbad⟩; have HEX := hide hex; have HBAD := hide hbad; clear hex hbad; simp only [])
    have HR04 := hide (HR03.out.keep HEX.out (by omega))
    have HR14 := hide (HR13.out.keep HEX.out (by omega))
    have HE4 := hide (HE3.out.trans HEX.out)
    have HQ : Hid (Out B p a cp s w4 d (v :: M) (deepAt (It.un t :: r) d)) := by
      have hb := HBAD.out
      rw [HUL.out] at hb
      show Out B p a cp s w4 d (v :: M) (deepAt (It.un t :: r) d)
      rw [HDD.out]
      exact hb
    clear HEX HBAD HAT3 HE3 HR03 HR13
    have R0 := HR04.out.c0
    have R1 := HR04.out.c1
    have R2 := HR04.out.c2
    have R3 := HR04.out.c3
    have R4 := HR04.out.c4
    have R5 := HR04.out.c5
    have R6 := HR04.out.c6
    have RF0 := HR04.out.fz 0
    have RF1 := HR04.out.fz 1
    have RF2 := HR04.out.fz 2
    have RF3 := HR04.out.fz 3
    have RF4 := HR04.out.fz 4
    have RF5 := HR04.out.fz 5
    have RF6 := HR04.out.fz 6
    have T0 := HR14.out.c0
    have T1 := HR14.out.c1
    have T2 := HR14.out.c2
    have T3 := HR14.out.c3
    have T4 := HR14.out.c4
    have T5 := HR14.out.c5
    have T6 := HR14.out.c6
    have HQF := fun (y0 y1 y2 y3 y4 y5 y6 : Value) => hide (HQ.out.ex ((((((((Ex.refl (fun k => k = r0) _).set (p := r0) (j := 0) rfl y0).set (p := r0) (j := 1) rfl y1).set (p := r0) (j := 2) rfl y2).set (p := r0) (j := 3) rfl y3).set (p := r0) (j := 4) rfl y4).set (p := r0) (j := 5) rfl y5).set (p := r0) (j := 6) rfl y6) (fun k e => e ▸ HB0.out))
    have HEF := fun (y0 y1 y2 y3 y4 y5 y6 : Value) => hide (((((((HE4.out.setNew (p := r0) (j := 0) HRR.out y0).setNew (p := r0) (j := 1) HRR.out y1).setNew (p := r0) (j := 2) HRR.out y2).setNew (p := r0) (j := 3) HRR.out y3).setNew (p := r0) (j := 4) HRR.out y4).setNew (p := r0) (j := 5) HRR.out y5).setNew (p := r0) (j := 6) HRR.out y6)
    go_wp2
    exact bodyPost_ret (v := xpV ⟨6, t.x, t.v, ⟨#[]⟩, none, 0, 0, t.l, t.c⟩) (by simp [results, Try.results77, go_sem, xpV, R0, R1, R2, R3, R4, R5, R6]) rfl ⟨⟨6, t.x, t.v, ⟨#[]⟩, none, 0, 0, t.l, t.c⟩, rfl, (HEF _ _ _ _ _ _ _).out, (HQF _ _ _ _ _ _ _).out⟩
  · have HAT' := HAT3
    rw [← HLL.out] at HAT'
    have HOP := hide (open_ok HAT'.out (by omega) HK5.out)
    rw [HLL.out] at HOP
    clear HAT'
    have HDD : Hid (deepAt (It.un t :: r) d = deepAt r (d + 1)) := if_neg h64
    go_upto_if 47 with (go_at_call 94; refine (HOP.out).mono ?_; rintro e w4 ⟨rfl, hex, hat⟩; have HEX := hide hex; have HAT4 := hide hat; clear hex hat; simp only [])
    have HX6 : Hid (Calls Try.prog 77 #[.pointer (some ⟨p, 0, none⟩)] w4 (RetX p w4 fun w' => Out B p a cp s w' (d + 1) (v :: M) (deepAt r (d + 1)))) := HEE.out w4 (d + 1) v M (by omega) HV.out (by rw [HL.out]; exact HAT4.out)
    have HR04 := hide (HR03.out.keep HEX.out (by omega))
    have HR14 := hide (HR13.out.keep HEX.out (by omega))
    have HE4 := hide (HE3.out.trans HEX.out)
    clear HEX HAT3 HAT4 HE3 HR03 HR13 HOP
    go_wp2_with fail
    refine (HX6.out).mono ?_
    rintro e w5 ⟨x, rfl, hex, hout⟩
    have hlt5 : r0 + 1 < w5.heap.size := World.block_lt_of_cell? _ _ (HR14.out.keep hex (by omega)).c0
    have HR05 := hide (HR04.out.keep hex (by omega))
    have HR15 := hide (HR14.out.keep hex (by omega))
    have HE5 := hide (HE4.out.trans hex)
    have HOUT := hide hout
    clear hex hout HR04 HR14 HE4 HX6
    unfold xpV
    simp only []
    have T0 := HR15.out.c0
    have T1 := HR15.out.c1
    have T2 := HR15.out.c2
    have T3 := HR15.out.c3
    have T4 := HR15.out.c4
    have T5 := HR15.out.c5
    have T6 := HR15.out.c6
    have TF0 := HR15.out.fz 0
    have TF1 := HR15.out.fz 1
    have TF2 := HR15.out.fz 2
    have TF3 := HR15.out.fz 3
    have TF4 := HR15.out.fz 4
    have TF5 := HR15.out.fz 5
    have TF6 := HR15.out.fz 6
    go_upto_region 10 with fail
    have hs6 := ((Ex.refl (fun k => k = r0 + 1) w5).set (p := r0 + 1) (j := 4) rfl (.slice (some ⟨w5.heap.size, 0, none⟩) 1 1)).alloc (.cells #[.int .i64 x.k, .string x.x, .int .i64 x.n, .string x.m, .slice x.q x.ql x.qc, .int .i64 x.li, .int .i64 x.co] 47)
    have hr1 := (HR15.out.put4 (some ⟨w5.heap.size, 0, none⟩) 1 1).keep (S := fun _ => False) ((Ex.refl _ _).alloc (.cells #[.int .i64 x.k, .string x.x, .int .i64 x.n, .string x.m, .slice x.q x.ql x.qc, .int .i64 x.li, .int .i64 x.co] 47)) (fun e => e)
    have hr0 := HR05.out.keep hs6 (by omega)
    have he6 := HE5.out.trans2 hs6 (fun j e => .inr (by have := HRR.out; omega))
    have hout6 := HOUT.out.ex hs6 (fun k e => by omega)
    generalize (w5.setCell ⟨r0 + 1, 4, none⟩ (.slice (some ⟨w5.heap.size, 0, none⟩) 1 1)).alloc (.cells #[.int .i64 x.k, .string x.x, .int .i64 x.n, .string x.m, .slice x.q x.ql x.qc, .int .i64 x.li, .int .i64 x.co] 47) = w6 at *
    generalize w5.heap.size = g6 at *
    clear HR15 HR05 HE5 HOUT hs6 T0 T1 T2 T3 T4 T5 T6 TF0 TF1 TF2 TF3 TF4 TF5 TF6
    obtain ⟨dd, k10, kf10, hdec⟩ := hout6.dec (by omega)
    have hs7 := (Ex.refl (fun k => k = p) w6).set (p := p) (j := 10) rfl (.int .i64 (wrap64 (dd - 1)))
    have HR08 := hide (hr0.keep hs7 (by omega))
    have HR18 := hide (hr1.keep hs7 (by omega))
    have HE8 := hide (he6.trans hs7)
    have HQ : Hid (Out B p a cp s (w6.setCell ⟨p, 10, none⟩ (.int .i64 (wrap64 (dd - 1)))) d (v :: M) (deepAt (It.un t :: r) d)) := by
      show Out B p a cp s _ d (v :: M) (deepAt (It.un t :: r) d)
      rw [HDD.out]
      exact hdec
    go_upto_region 11 with fail
    generalize w6.setCell ⟨p, 10, none⟩ (.int .i64 (wrap64 (dd - 1))) = w8 at *
    clear hdec hs7 hr0 hr1 he6 hout6 k10 kf10
    have R0 := HR08.out.c0
    have R1 := HR08.out.c1
    have R2 := HR08.out.c2
    have R3 := HR08.out.c3
    have R4 := HR08.out.c4
    have R5 := HR08.out.c5
    have R6 := HR08.out.c6
    have RF0 := HR08.out.fz 0
    have RF1 := HR08.out.fz 1
    have RF2 := HR08.out.fz 2
    have RF3 := HR08.out.fz 3
    have RF4 := HR08.out.fz 4
    have RF5 := HR08.out.fz 5
    have RF6 := HR08.out.fz 6
    have T0 := HR18.out.c0
    have T1 := HR18.out.c1
    have T2 := HR18.out.c2
    have T3 := HR18.out.c3
    have T4 := HR18.out.c4
    have T5 := HR18.out.c5
    have T6 := HR18.out.c6
    have HQF := fun (y0 y1 y2 y3 y4 y5 y6 : Value) => hide (HQ.out.ex ((((((((Ex.refl (fun k => k = r0) _).set (p := r0) (j := 0) rfl y0).set (p := r0) (j := 1) rfl y1).set (p := r0) (j := 2) rfl y2).set (p := r0) (j := 3) rfl y3).set (p := r0) (j := 4) rfl y4).set (p := r0) (j := 5) rfl y5).set (p := r0) (j := 6) rfl y6) (fun k e => e ▸ HB0.out))
    have HEF := fun (y0 y1 y2 y3 y4 y5 y6 : Value) => hide (((((((HE8.out.setNew (p := r0) (j := 0) HRR.out y0).setNew (p := r0) (j := 1) HRR.out y1).setNew (p := r0) (j := 2) HRR.out y2).setNew (p := r0) (j := 3) HRR.out y3).setNew (p := r0) (j := 4) HRR.out y4).setNew (p := r0) (j := 5) HRR.out y5).setNew (p := r0) (j := 6) HRR.out y6)
    go_wp2
    exact bodyPost_ret (v := xpV ⟨6, t.x, t.v, ⟨#[]⟩, some ⟨g6, 0, none⟩, 1, 1, t.l, t.c⟩) (by simp [results, Try.results77, go_sem, xpV, R0, R1, R2, R3, R4, R5, R6]) rfl ⟨⟨6, t.x, t.v, ⟨#[]⟩, some ⟨g6, 0, none⟩, 1, 1, t.l, t.c⟩, rfl, (HEF _ _ _ _ _ _ _).out, (HQF _ _ _ _ _ _ _).out⟩
/-- what may stand ahead of a closing mark -/
theorem stop_of {t : Tk} {x : ByteArray} (h : isM t x = true) (h1 : powP x.toList = 0) (h2 : (x.toList == [46]) = false) (h3 : (x.toList == [91]) = false) : Stop t := by
  have h' := h
  simp only [isM, Bool.and_eq_true, beq_iff_eq] at h'
  refine ⟨h'.1, by rw [h'.2]; exact h1, isM_ne h ?_, isM_ne h ?_⟩
  · rw [ByteArray.toList_eq ⟨#[46]⟩]; exact h2
  · rw [ByteArray.toList_eq ⟨#[91]⟩]; exact h3
theorem stop_par {t : Tk} (h : isM t ⟨#[41]⟩ = true) : Stop t := stop_of h (by rw [ByteArray.toList_eq]; decide) (by rw [ByteArray.toList_eq]; rfl) (by rw [ByteArray.toList_eq]; rfl)
theorem stop_brk {t : Tk} (h : isM t ⟨#[93]⟩ = true) : Stop t := stop_of h (by rw [ByteArray.toList_eq]; decide) (by rw [ByteArray.toList_eq]; rfl) (by rw [ByteArray.toList_eq]; rfl)
/-- parser.operand and parser.expr on what the law spells -/
theorem operand_all {n : Tk} (hn : n.k = 2 ∨ n.k = 3) : ∀ (its : List It), (∀ i ∈ its, i.Ok) → OperandOk B p a cp s its n
  | [], _ => fun w d u L hd hu hat => by
    rcases hn with hn | hn
    · exact operand_place hn hat (fun w2 hat2 => (place_name hat2 hn hu.2.2.1 hu.2.2.2).mono fun e w' ⟨x, _, he, hex, h⟩ => ⟨x, he, hex, h⟩) (fun w1 w2 h _ S e hS => Out.ex (r := none) h e hS)
    · exact operand_num hn hat
  | i :: r, hok => fun w d u L hd hu hat => by
    have ih := operand_all hn r (fun j hj => hok j (List.mem_cons_of_mem _ hj))
    have hi := hok i List.mem_cons_self
    cases i with
    | par o c =>
      rw [toks, List.cons_append, List.append_assoc] at hat
      exact operand_par (expr_of_operand ih) hi hd (stop_par hi.2.1) hat
    | idx m o c =>
      rw [toks, List.cons_append, List.cons_append, List.append_assoc] at hat
      exact operand_place hi.1 hat (fun w2 hat2 => place_idx (expr_of_operand ih) hi hd hu (stop_brk hi.2.2.1) hat2) (fun w1 w2 h _ S e hS => Out.ex h e hS)
    | un o =>
      rw [toks, List.cons_append] at hat
      exact operand_un ih hi hd hu hat
theorem expr_all {n : Tk} (hn : n.k = 2 ∨ n.k = 3) (its : List It) (h : ∀ i ∈ its, i.Ok) : ExprOk B p a cp s its n := expr_of_operand (operand_all hn its h)
end
end Go.Proofs.Qxb6500774a
