import Derived.Test.Qxb6500774aGr2
namespace Go.Proofs.Qxb6500774a
open Go.RowKit

section
variable {B p : Nat} {a : Option Addr} {cp : Nat} {s : List Int}
set_option maxRecDepth 100000 in
set_option maxHeartbeats 4000000 in
/-- parser.place: one index -/
theorem place_idx {r : List It} {n : Tk} (hE : ExprOk B p a cp s r n) {w : World} {d : Int} {t u cl v : Tk} {M : List Tk} (hok : (It.idx t u cl).Ok) (hd : 0 ≤ d ∧ d ≤ 64) (hv : Stop v) (hcl : Stop cl) (hat : At B p a cp s w d (t :: u :: (toks r n ++ cl :: v :: M))) :
    Calls Try.prog 93 #[.pointer (some ⟨p, 0, none⟩)] w (RetX p w fun w' => Out B p a cp s w' d (v :: M) (deepAt (It.idx t u cl :: r) d)) := by
  obtain ⟨hk, hu, hcc, hul⟩ := hok
  have HUL := hide hul
  have HU := hide hu
  have HCC := hide hcc
  have HEE := hide hE
  have HV := hide hv
  have HCL := hide hcl
  clear hul hu hcc hE hv hcl
  obtain ⟨y, L0, hL⟩ := toks_cons r n (cl :: v :: M)
  obtain ⟨L, hLL⟩ : ∃ L, y :: L0 = L := ⟨_, rfl⟩
  rw [hL, hLL] at hat
  rw [hLL] at hL
  have HLL := hide hLL
  clear hLL
  have HL := hide hL
  clear hL
  obtain ⟨o, hps, hst⟩ := hat
  have hat0 : At B p a cp s w d (t :: u :: L) := ⟨o, hps, hst⟩
  have hb : B ≤ w.heap.size ∧ p < B := ⟨hps.hB, hps.hp⟩
  have H0 := hide hat0
  have hps1 := hps.new (.cells #[.int .i64 0, .string ⟨#[]⟩, .int .i64 0, .string ⟨#[]⟩, .slice none 0 0, .int .i64 0, .int .i64 0] 47)
  have c8 := hps1.c8
  have c9 := hps1.c9
  have hpl : p < w.heap.size := World.block_lt_of_cell? _ _ hps.c4
  have hpl1 : p < (w.alloc (.cells #[.int .i64 0, .string ⟨#[]⟩, .int .i64 0, .string ⟨#[]⟩, .slice none 0 0, .int .i64 0, .int .i64 0] 47)).heap.size := by simp; omega
  clear hat0 hps hst
  go_enter Try.func93, Try.ntmps93
  go_upto_region 1 with fail
  have hr0 := (XB.new w ⟨0, ⟨#[]⟩, 0, ⟨#[]⟩, none, 0, 0, 0, 0⟩).keep (S := fun _ => False) (((Ex.refl _ _).alloc (.cells #[.int .i64 3, .string ⟨#[]⟩, .int .i64 0, .string ⟨#[]⟩, .slice none 0 0, .int .i64 t.l, .int .i64 t.c] 47)).drew) (fun e => e)
  have hr1 := (XB.new (w.alloc (.cells #[.int .i64 0, .string ⟨#[]⟩, .int .i64 0, .string ⟨#[]⟩, .slice none 0 0, .int .i64 0, .int .i64 0] 47)) ⟨3, ⟨#[]⟩, 0, ⟨#[]⟩, none, 0, 0, t.l, t.c⟩).keep (S := fun _ => False) ((Ex.refl _ _).drew) (fun e => e)
  rw [show (w.alloc (.cells #[.int .i64 0, .string ⟨#[]⟩, .int .i64 0, .string ⟨#[]⟩, .slice none 0 0, .int .i64 0, .int .i64 0] 47)).heap.size = w.heap.size + 1 by simp] at hr1
  have HE2 : Hid (Ex (fun k => k = p) w ((w.alloc (.cells #[.int .i64 0, .string ⟨#[]⟩, .int .i64 0, .string ⟨#[]⟩, .slice none 0 0, .int .i64 0, .int .i64 0] 47)).alloc (.cells #[.int .i64 3, .string ⟨#[]⟩, .int .i64 0, .string ⟨#[]⟩, .slice none 0 0, .int .i64 t.l, .int .i64 t.c] 47)).drew) := (((Ex.refl _ _).alloc _).alloc _).drew
  have hat2 := H0.out.ex (S := fun _ => False) ((((Ex.refl _ w).alloc (.cells #[.int .i64 0, .string ⟨#[]⟩, .int .i64 0, .string ⟨#[]⟩, .slice none 0 0, .int .i64 0, .int .i64 0] 47)).alloc (.cells #[.int .i64 3, .string ⟨#[]⟩, .int .i64 0, .string ⟨#[]⟩, .slice none 0 0, .int .i64 t.l, .int .i64 t.c] 47)).drew) (fun _ e => e.elim)
  go_region
  generalize ((w.alloc (.cells #[.int .i64 0, .string ⟨#[]⟩, .int .i64 0, .string ⟨#[]⟩, .slice none 0 0, .int .i64 0, .int .i64 0] 47)).alloc (.cells #[.int .i64 3, .string ⟨#[]⟩, .int .i64 0, .string ⟨#[]⟩, .slice none 0 0, .int .i64 t.l, .int .i64 t.c] 47)).drew = w2 at *
  have HB0 : Hid (B ≤ w.heap.size) := hb.1
  obtain ⟨r0, hr0e⟩ : ∃ r, w.heap.size = r := ⟨_, rfl⟩
  have HRR : Hid (w.heap.size ≤ r0) := by rw [hr0e]; exact Nat.le_refl _
  rw [hr0e] at hr0 hr1 HB0 hpl ⊢
  clear hr0e c8 c9 hpl1 hps1 H0
  have HT := hide (take_yes _ hat2)
  rw [hk] at HT
  clear hat2
  go_wp2_with fail
  refine (HT.out).mono ?_
  rintro e w3 ⟨rfl, hex, hat⟩
  have hb0 := HB0.out
  have HR0 := hide (hr0.keep hex (by omega))
  have HR1 := hide (hr1.keep hex (by omega))
  have HE3 := hide (HE2.out.trans hex)
  have HAT := hide hat
  clear hex hat hr0 hr1 HE2 HT
  unfold tokV
  simp only []
  have q3 := HR1.out.c3
  have hfl := fld81 2 t.x t.v t.e t.l t.c w3
  have qf := HR1.out.fz 3
  go_wp2_with fail
  have hr1 := HR1.out.put3 t.x
  have hr0 := HR0.out.keep ((Ex.refl (fun k => k = r0 + 1) w3).set (p := r0 + 1) (j := 3) rfl (.string t.x)) (by omega)
  have he4 := HE3.out.setNew (p := r0 + 1) (j := 3) (by have := HRR.out; omega) (.string t.x)
  have hat4 := HAT.out.ex ((Ex.refl (fun k => k = r0 + 1) w3).set (p := r0 + 1) (j := 3) rfl (.string t.x)) (fun k e => by omega)
  generalize w3.setCell ⟨r0 + 1, 3, none⟩ (.string t.x) = w4 at *
  clear hfl q3 qf HR1 HR0 HE3 HAT
  obtain ⟨o2, hps, hst⟩ := id hat4
  have HA1 := hide (accept_no hps ⟨#[46]⟩ (isM_ne HU.out (by rw [ByteArray.toList_eq, ByteArray.toList_eq]; rfl)))
  have HA2 := hide (at_is hps ⟨#[91]⟩ _ HU.out)
  have HR0 := hide hr0
  have HR1 := hide hr1
  have HE4 := hide he4
  have HAT := hide hat4
  have HM4 := hide (mB_one hat4 HU.out)
  clear hps hst hr0 hr1 he4 hat4
  go_loopw [20] (fun _ wr => w4 = wr ∨ ∃ x, XB wr (r0 + 1) x ∧ XB wr r0 ⟨0, ⟨#[]⟩, 0, ⟨#[]⟩, none, 0, 0, 0, 0⟩ ∧ Ex (fun k => k = p) w wr ∧ Out B p a cp s wr d (v :: M) (deepAt (It.idx t u cl :: r) d)) (fun _ wr => mB p wr)
  case atStart => exact .inl rfl
  case round =>
    rcases hrel with hrel | ⟨x, hx1, hx0, hxe, hxo⟩
    · subst hrel
      by_cases h64 : 64 ≤ d
      · have HOP := hide (open_deep HAT.out h64 (isM_k HU.out))
        have HDD : Hid (deepAt (It.idx t u cl :: r) d = some u.c) := if_pos h64
        clear h64
        go_upto_if 36 with (first | (go_at_call 43; refine (HA1.out).mono ?_; rintro e wq ⟨rfl, rfl⟩; simp only []) | (go_at_call 72; refine (HA2.out).mono ?_; rintro e wq ⟨rfl, rfl⟩; simp only []) | (go_at_call 94; refine (HOP.out).mono ?_; rintro e w5 ⟨rfl, hex, hbad⟩; have HEX := hide hex; have HBAD := hide hbad; clear hex hbad; simp only []))
        have hr0' := HR0.out.keep HEX.out (by omega)
        have hr1' := HR1.out.keep HEX.out (by omega)
        have HR0 := hide hr0'
        have HR1 := hide hr1'
        have HE5 := hide (HE4.out.trans HEX.out)
        have HQ : Hid (Out B p a cp s w5 d (v :: M) (deepAt (It.idx t u cl :: r) d)) := by
          have hb := HBAD.out
          rw [HUL.out] at hb
          show Out B p a cp s w5 d (v :: M) (deepAt (It.idx t u cl :: r) d)
          rw [HDD.out]
          exact hb
        clear hr0' hr1' HEX HBAD HAT HE4
        have R0 := HR0.out.c0
        have R1 := HR0.out.c1
        have R2 := HR0.out.c2
        have R3 := HR0.out.c3
        have R4 := HR0.out.c4
        have R5 := HR0.out.c5
        have R6 := HR0.out.c6
        have RF0 := HR0.out.fz 0
        have RF1 := HR0.out.fz 1
        have RF2 := HR0.out.fz 2
        have RF3 := HR0.out.fz 3
        have RF4 := HR0.out.fz 4
        have RF5 := HR0.out.fz 5
        have RF6 := HR0.out.fz 6
        have T0 := HR1.out.c0
        have T1 := HR1.out.c1
        have T2 := HR1.out.c2
        have T3 := HR1.out.c3
        have T4 := HR1.out.c4
        have T5 := HR1.out.c5
        have T6 := HR1.out.c6
        have HQF := fun (y0 y1 y2 y3 y4 y5 y6 : Value) => hide (HQ.out.ex ((((((((Ex.refl (fun k => k = r0) _).set (p := r0) (j := 0) rfl y0).set (p := r0) (j := 1) rfl y1).set (p := r0) (j := 2) rfl y2).set (p := r0) (j := 3) rfl y3).set (p := r0) (j := 4) rfl y4).set (p := r0) (j := 5) rfl y5).set (p := r0) (j := 6) rfl y6) (fun k e => e ▸ HB0.out))
        have HEF := fun (y0 y1 y2 y3 y4 y5 y6 : Value) => hide (((((((HE5.out.setNew (p := r0) (j := 0) HRR.out y0).setNew (p := r0) (j := 1) HRR.out y1).setNew (p := r0) (j := 2) HRR.out y2).setNew (p := r0) (j := 3) HRR.out y3).setNew (p := r0) (j := 4) HRR.out y4).setNew (p := r0) (j := 5) HRR.out y5).setNew (p := r0) (j := 6) HRR.out y6)
        go_wp2
        exact bodyPost_ret (v := xpV ⟨3, ⟨#[]⟩, 0, t.x, none, 0, 0, t.l, t.c⟩) (by simp [results, Try.results93, go_sem, xpV, R0, R1, R2, R3, R4, R5, R6]) rfl ⟨⟨3, ⟨#[]⟩, 0, t.x, none, 0, 0, t.l, t.c⟩, rfl, (HEF _ _ _ _ _ _ _).out, (HQF _ _ _ _ _ _ _).out⟩
      · have HAT' := HAT
        rw [← HLL.out] at HAT'
        have HOP := hide (open_ok HAT'.out (by omega) (isM_k HU.out))
        rw [HLL.out] at HOP
        clear HAT'
        have HDD : Hid (deepAt (It.idx t u cl :: r) d = deepAt r (d + 1)) := if_neg h64
        go_upto_if 36 with (first | (go_at_call 43; refine (HA1.out).mono ?_; rintro e wq ⟨rfl, rfl⟩; simp only []) | (go_at_call 72; refine (HA2.out).mono ?_; rintro e wq ⟨rfl, rfl⟩; simp only []) | (go_at_call 94; refine (HOP.out).mono ?_; rintro e w5 ⟨rfl, hex, hat⟩; have HEX := hide hex; have HAT5 := hide hat; clear hex hat; simp only []))
        have hr0' := HR0.out.keep HEX.out (by omega)
        have hr1' := HR1.out.keep HEX.out (by omega)
        have HR0 := hide hr0'
        have HR1 := hide hr1'
        have HE5 := hide (HE4.out.trans HEX.out)
        clear hr0' hr1' HEX HAT HE4 HOP HA1 HA2
        go_upto_region 6 with fail
        have HX6 : Hid (Calls Try.prog 44 #[.pointer (some ⟨p, 0, none⟩), .int .i64 1] w5.drew (RetX p w5.drew fun w' => Out B p a cp s w' (d + 1) (cl :: v :: M) (deepAt r (d + 1)))) := HEE.out w5.drew (d + 1) cl (v :: M) (by omega) HCL.out (by rw [HL.out]; exact HAT5.out.ex (S := fun _ => False) (Ex.refl _ _).drew (fun _ e => e.elim))
        have T0 := HR1.out.c0
        have T1 := HR1.out.c1
        have T2 := HR1.out.c2
        have T3 := HR1.out.c3
        have T4 := HR1.out.c4
        have T5 := HR1.out.c5
        have T6 := HR1.out.c6
        have TF0 := HR1.out.fz 0
        have TF1 := HR1.out.fz 1
        have TF2 := HR1.out.fz 2
        have TF3 := HR1.out.fz 3
        have TF4 := HR1.out.fz 4
        have TF5 := HR1.out.fz 5
        have TF6 := HR1.out.fz 6
        go_cut [45] (fun _ wx => ∃ x, Hid (XB wx (r0 + 1) x ∧ XB wx r0 ⟨0, ⟨#[]⟩, 0, ⟨#[]⟩, none, 0, 0, 0, 0⟩ ∧ Ex (fun k => k = p) w wx ∧ Out B p a cp s wx (d + 1) (cl :: v :: M) (deepAt r (d + 1))))
        case first =>
          go_region_law (first
            | (refine step_call rfl 44 #[.pointer (some ⟨p, 0, none⟩), .int .i64 1] (by simp [go_sem]) HX6.out ?_
               rintro e w6 ⟨x2, rfl, hex, hout⟩
               have hex2 := Ex.of_drew hex
               have hr6 := HR1.out.keep hex2 (by omega)
               have hr60 := HR0.out.keep hex2 (by omega)
               have S0 := hr6.c0
               have hlt6 : r0 + 1 < w6.heap.size := World.block_lt_of_cell? _ _ S0
               have hss := (((((((((Ex.refl (fun k => k = r0 + 1) w6).set (p := r0 + 1) (j := 0) rfl (.int .i64 5)).set (p := r0 + 1) (j := 1) rfl (.string ⟨#[]⟩)).set (p := r0 + 1) (j := 2) rfl (.int .i64 0)).set (p := r0 + 1) (j := 3) rfl (.string ⟨#[]⟩)).set (p := r0 + 1) (j := 4) rfl (.slice (some ⟨w6.heap.size, 0, none⟩) 2 2)).set (p := r0 + 1) (j := 5) rfl (.int .i64 t.l)).set (p := r0 + 1) (j := 6) rfl (.int .i64 t.c)).alloc (.cells #[.int .i64 3, .string ⟨#[]⟩, .int .i64 0, .string t.x, .slice none 0 0, .int .i64 t.l, .int .i64 t.c, .int .i64 x2.k, .string x2.x, .int .i64 x2.n, .string x2.m, .slice x2.q x2.ql x2.qc, .int .i64 x2.li, .int .i64 x2.co] 47))
               have HFIN : Hid (XB ((((((((w6.setCell ⟨r0 + 1, 0, none⟩ (.int .i64 5)).setCell ⟨r0 + 1, 1, none⟩ (.string ⟨#[]⟩)).setCell ⟨r0 + 1, 2, none⟩ (.int .i64 0)).setCell ⟨r0 + 1, 3, none⟩ (.string ⟨#[]⟩)).setCell ⟨r0 + 1, 4, none⟩ (.slice (some ⟨w6.heap.size, 0, none⟩) 2 2)).setCell ⟨r0 + 1, 5, none⟩ (.int .i64 t.l)).setCell ⟨r0 + 1, 6, none⟩ (.int .i64 t.c)).alloc (.cells #[.int .i64 3, .string ⟨#[]⟩, .int .i64 0, .string t.x, .slice none 0 0, .int .i64 t.l, .int .i64 t.c, .int .i64 x2.k, .string x2.x, .int .i64 x2.n, .string x2.m, .slice x2.q x2.ql x2.qc, .int .i64 x2.li, .int .i64 x2.co] 47)) (r0 + 1) ⟨5, ⟨#[]⟩, 0, ⟨#[]⟩, some ⟨w6.heap.size, 0, none⟩, 2, 2, t.l, t.c⟩ ∧ XB ((((((((w6.setCell ⟨r0 + 1, 0, none⟩ (.int .i64 5)).setCell ⟨r0 + 1, 1, none⟩ (.string ⟨#[]⟩)).setCell ⟨r0 + 1, 2, none⟩ (.int .i64 0)).setCell ⟨r0 + 1, 3, none⟩ (.string ⟨#[]⟩)).setCell ⟨r0 + 1, 4, none⟩ (.slice (some ⟨w6.heap.size, 0, none⟩) 2 2)).setCell ⟨r0 + 1, 5, none⟩ (.int .i64 t.l)).setCell ⟨r0 + 1, 6, none⟩ (.int .i64 t.c)).alloc (.cells #[.int .i64 3, .string ⟨#[]⟩, .int .i64 0, .string t.x, .slice none 0 0, .int .i64 t.l, .int .i64 t.c, .int .i64 x2.k, .string x2.x, .int .i64 x2.n, .string x2.m, .slice x2.q x2.ql x2.qc, .int .i64 x2.li, .int .i64 x2.co] 47)) r0 ⟨0, ⟨#[]⟩, 0, ⟨#[]⟩, none, 0, 0, 0, 0⟩ ∧ Ex (fun k => k = p) w ((((((((w6.setCell ⟨r0 + 1, 0, none⟩ (.int .i64 5)).setCell ⟨r0 + 1, 1, none⟩ (.string ⟨#[]⟩)).setCell ⟨r0 + 1, 2, none⟩ (.int .i64 0)).setCell ⟨r0 + 1, 3, none⟩ (.string ⟨#[]⟩)).setCell ⟨r0 + 1, 4, none⟩ (.slice (some ⟨w6.heap.size, 0, none⟩) 2 2)).setCell ⟨r0 + 1, 5, none⟩ (.int .i64 t.l)).setCell ⟨r0 + 1, 6, none⟩ (.int .i64 t.c)).alloc (.cells #[.int .i64 3, .string ⟨#[]⟩, .int .i64 0, .string t.x, .slice none 0 0, .int .i64 t.l, .int .i64 t.c, .int .i64 x2.k, .string x2.x, .int .i64 x2.n, .string x2.m, .slice x2.q x2.ql x2.qc, .int .i64 x2.li, .int .i64 x2.co] 47)) ∧ Out B p a cp s ((((((((w6.setCell ⟨r0 + 1, 0, none⟩ (.int .i64 5)).setCell ⟨r0 + 1, 1, none⟩ (.string ⟨#[]⟩)).setCell ⟨r0 + 1, 2, none⟩ (.int .i64 0)).setCell ⟨r0 + 1, 3, none⟩ (.string ⟨#[]⟩)).setCell ⟨r0 + 1, 4, none⟩ (.slice (some ⟨w6.heap.size, 0, none⟩) 2 2)).setCell ⟨r0 + 1, 5, none⟩ (.int .i64 t.l)).setCell ⟨r0 + 1, 6, none⟩ (.int .i64 t.c)).alloc (.cells #[.int .i64 3, .string ⟨#[]⟩, .int .i64 0, .string t.x, .slice none 0 0, .int .i64 t.l, .int .i64 t.c, .int .i64 x2.k, .string x2.x, .int .i64 x2.n, .string x2.m, .slice x2.q x2.ql x2.qc, .int .i64 x2.li, .int .i64 x2.co] 47)) (d + 1) (cl :: v :: M) (deepAt r (d + 1))) :=
                 ⟨(hr6.put ⟨5, ⟨#[]⟩, 0, ⟨#[]⟩, some ⟨w6.heap.size, 0, none⟩, 2, 2, t.l, t.c⟩).keep (S := fun _ => False) ((Ex.refl _ _).alloc _) (fun e => e), hr60.keep hss (by omega), (HE5.out.trans hex2).trans2 hss (fun j e => .inr (by have := HRR.out; omega)), hout.ex hss (fun k e => by omega)⟩
               have S1 := hr6.c1
               have S2 := hr6.c2
               have S3 := hr6.c3
               have S4 := hr6.c4
               have S5 := hr6.c5
               have S6 := hr6.c6
               have SF0 := hr6.fz 0
               have SF1 := hr6.fz 1
               have SF2 := hr6.fz 2
               have SF3 := hr6.fz 3
               have SF4 := hr6.fz 4
               have SF5 := hr6.fz 5
               have SF6 := hr6.fz 6
               clear hex hex2 hr6 hout hss hr60
               refine ⟨_, rfl, ?_⟩
               unfold xpV))
          all_goals
            clear T0 T1 T2 T3 T4 T5 T6 TF0 TF1 TF2 TF3 TF4 TF5 TF6 S0 S1 S2 S3 S4 S5 S6 SF0 SF1 SF2 SF3 SF4 SF5 SF6
            go_wp2
            go_meet
            exact ⟨_, HFIN⟩
        obtain ⟨x, hc⟩ := hcut
        obtain ⟨dd, k10, kf10, hdec⟩ := hc.out.2.2.2.dec (by omega)
        have HP0 := hide (hc.out.1.keep ((Ex.refl (fun k => k = p) wc).set (p := p) (j := 10) rfl (.int .i64 (wrap64 (dd - 1)))) (by omega))
        have HP1 := hide (hc.out.2.1.keep ((Ex.refl (fun k => k = p) wc).set (p := p) (j := 10) rfl (.int .i64 (wrap64 (dd - 1)))) (by omega))
        have HP2 := hide (hc.out.2.2.1.set (p := p) (j := 10) rfl (.int .i64 (wrap64 (dd - 1))))
        have HXP := hide (expect_out hdec ⟨#[93]⟩ HCC.out)
        clear hdec hc T0 T1 T2 T3 T4 T5 T6 TF0 TF1 TF2 TF3 TF4 TF5 TF6 HR0 HR1 HE5 HAT5 HX6
        go_wp2_with (go_at_call 34; refine (HXP.out).mono ?_; rintro e w8 ⟨rfl, hex, hout⟩; have HEX := hide hex; have HOUT := hide hout; clear hex hout; simp only [])
        go_roundw
        case rel => exact .inr ⟨x, HP0.out.keep HEX.out (by omega), HP1.out.keep HEX.out (by omega), HP2.out.trans HEX.out, by rw [HDD.out]; exact HOUT.out⟩
        case measure =>
          rw [HM4.out, mB_zero HOUT.out HV.out]
          omega
    · have HR0 := hide hx0
      have HR1 := hide hx1
      have HEE5 := hide hxe
      have HQ := hide hxo
      have HB1 := hide (accept_out hxo ⟨#[46]⟩ HV.out.2.2.1)
      have HB2 := hide (at_out hxo ⟨#[91]⟩ HV.out.2.2.2)
      clear hx0 hx1 hxe hxo HA1 HA2 HAT
      have R0 := HR0.out.c0
      have R1 := HR0.out.c1
      have R2 := HR0.out.c2
      have R3 := HR0.out.c3
      have R4 := HR0.out.c4
      have R5 := HR0.out.c5
      have R6 := HR0.out.c6
      have RF0 := HR0.out.fz 0
      have RF1 := HR0.out.fz 1
      have RF2 := HR0.out.fz 2
      have RF3 := HR0.out.fz 3
      have RF4 := HR0.out.fz 4
      have RF5 := HR0.out.fz 5
      have RF6 := HR0.out.fz 6
      have T0 := HR1.out.c0
      have T1 := HR1.out.c1
      have T2 := HR1.out.c2
      have T3 := HR1.out.c3
      have T4 := HR1.out.c4
      have T5 := HR1.out.c5
      have T6 := HR1.out.c6
      have HQF := fun (y0 y1 y2 y3 y4 y5 y6 : Value) => hide (HQ.out.ex ((((((((Ex.refl (fun k => k = r0) _).set (p := r0) (j := 0) rfl y0).set (p := r0) (j := 1) rfl y1).set (p := r0) (j := 2) rfl y2).set (p := r0) (j := 3) rfl y3).set (p := r0) (j := 4) rfl y4).set (p := r0) (j := 5) rfl y5).set (p := r0) (j := 6) rfl y6) (fun k e => e ▸ HB0.out))
      have HEF := fun (y0 y1 y2 y3 y4 y5 y6 : Value) => hide (((((((HEE5.out.setNew (p := r0) (j := 0) HRR.out y0).setNew (p := r0) (j := 1) HRR.out y1).setNew (p := r0) (j := 2) HRR.out y2).setNew (p := r0) (j := 3) HRR.out y3).setNew (p := r0) (j := 4) HRR.out y4).setNew (p := r0) (j := 5) HRR.out y5).setNew (p := r0) (j := 6) HRR.out y6)
      go_wp2_with (first | (go_at_call 43; refine (HB1.out).mono ?_; rintro e wq ⟨rfl, rfl⟩; simp only []) | (go_at_call 72; refine (HB2.out).mono ?_; rintro e wq ⟨rfl, rfl⟩; simp only []))
      exact bodyPost_ret (v := xpV x) (by simp [results, Try.results93, go_sem, xpV, R0, R1, R2, R3, R4, R5, R6]) rfl ⟨x, rfl, (HEF _ _ _ _ _ _ _).out, (HQF _ _ _ _ _ _ _).out⟩
end
end Go.Proofs.Qxb6500774a
