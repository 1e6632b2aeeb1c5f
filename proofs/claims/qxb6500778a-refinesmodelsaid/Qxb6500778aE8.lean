import Derived.Test.Qxb6500778aE7
namespace Go.Proofs.Qxb6500778a
open Go.RowKit

theorem cs_alloc (w : World) (c : Chg) (t : Nat) : CS (w.alloc (.cells c.vals.toArray t)) w.heap.size c := by
  have n := fun j u h => new_cells w c.vals t j u h
  exact ⟨n 0 _ rfl, n 1 _ rfl, n 2 _ rfl, n 3 _ rfl, n 4 _ rfl, n 5 _ rfl, n 6 _ rfl, n 7 _ rfl, n 8 _ rfl, fun j => by simp [go_sem]⟩
theorem fin_any {w W w' : World} {p r0 : Nat} {a : Option Addr} {cp : Nat} {s : List Int} {x : PSt} {c : Chg} {o1 o2 : Obj} (hW : W = (w.alloc o1).alloc o2) (h : MC W w' p (r0 + 1) a cp s x c) (hr : w.heap.size = r0) (hpw : p < w.heap.size) (hsw : ∀ (i : Nat) y, s[i]? = some y → ∀ b off, a = some ⟨b, off, none⟩ → b < w.heap.size) {y0 y1 y2 y3 y4 y5 y6 y7 y8 : Value} :
    PX (((((((((w'.setCell ⟨r0, 0, none⟩ y0).setCell ⟨r0, 1, none⟩ y1).setCell ⟨r0, 2, none⟩ y2).setCell ⟨r0, 3, none⟩ y3).setCell ⟨r0, 4, none⟩ y4).setCell ⟨r0, 5, none⟩ y5).setCell ⟨r0, 6, none⟩ y6).setCell ⟨r0, 7, none⟩ y7).setCell ⟨r0, 8, none⟩ y8) p a cp s x ∧ Ex (fun k => k = p) w (((((((((w'.setCell ⟨r0, 0, none⟩ y0).setCell ⟨r0, 1, none⟩ y1).setCell ⟨r0, 2, none⟩ y2).setCell ⟨r0, 3, none⟩ y3).setCell ⟨r0, 4, none⟩ y4).setCell ⟨r0, 5, none⟩ y5).setCell ⟨r0, 6, none⟩ y6).setCell ⟨r0, 7, none⟩ y7).setCell ⟨r0, 8, none⟩ y8) := by
  subst hW
  have e : Ex (fun k => k = r0) w' (((((((((w'.setCell ⟨r0, 0, none⟩ y0).setCell ⟨r0, 1, none⟩ y1).setCell ⟨r0, 2, none⟩ y2).setCell ⟨r0, 3, none⟩ y3).setCell ⟨r0, 4, none⟩ y4).setCell ⟨r0, 5, none⟩ y5).setCell ⟨r0, 6, none⟩ y6).setCell ⟨r0, 7, none⟩ y7).setCell ⟨r0, 8, none⟩ y8) := ((((((((((Ex.refl (fun k => k = r0) w').set (p := r0) rfl _).set (p := r0) rfl _).set (p := r0) rfl _).set (p := r0) rfl _).set (p := r0) rfl _).set (p := r0) rfl _).set (p := r0) rfl _).set (p := r0) rfl _).set (p := r0) rfl _)
  have hex : Ex (fun k => k = p) w w' := by
    refine ⟨h.ex.os, h.ex.tape, h.ex.output, Nat.le_trans (by simp; omega) h.ex.size, fun k hk hn => ?_⟩
    rw [h.ex.block k (by simp; omega) (by rintro (x | x); exact hn x; omega)]
    rw [Below.heap_alloc _ _ _ (by simp; omega), Below.heap_alloc _ _ _ hk]
  refine ⟨h.pi.ex e (by omega) (fun i y hy b off ha => by have := hsw i y hy b off ha; omega), ?_⟩
  replace hr : w.heap.size ≤ r0 := Nat.le_of_eq hr
  exact (((((((((hex.setNew hr _).setNew hr _).setNew hr _).setNew hr _).setNew hr _).setNew hr _).setNew hr _).setNew hr _).setNew hr _)
def chgV (c : Chg) : Value := .agg c.vals.toArray
set_option maxRecDepth 100000 in
set_option maxHeartbeats 8000000 in
/-- parser.change -/
theorem change_any (w : World) (p : Nat) (a : Option Addr) (cp : Nat) (s : List Int) (x : PSt) (h : PX w p a cp s x) :
    Calls Try.prog 34 #[.pointer (some ⟨p, 0, none⟩)] w (PPost w p a cp s (chgV (changeX s x).2) (changeX s x).1) := by
  have hpw : p < w.heap.size := h.lt
  have hsw : ∀ (i : Nat) y, s[i]? = some y → ∀ b off, a = some ⟨b, off, none⟩ → b < w.heap.size := fun i y hy b off ha => by
    obtain ⟨b', off', e, hc⟩ := h.lx.src i y hy
    rw [ha] at e
    injection e with e
    injection e with e1 e2
    subst e1
    exact World.block_lt_of_cell? _ _ hc
  have haq : ∀ (i : Nat) y, s[i]? = some y → ∀ b off, a = some ⟨b, off, none⟩ → b ≠ w.heap.size + 1 := fun i y hy b off ha => by have := hsw i y hy b off ha; omega
  obtain ⟨W, hW⟩ : ∃ W, W = (w.alloc (.cells #[.int .i64 0, .int .i64 0, .int .i64 0, .int .i64 0, .int .i64 0, .int .i64 0, .int .i64 0, .bool false, .bool false] 45)).alloc (.cells #[.int .i64 0, .int .i64 0, .int .i64 0, .int .i64 0, .int .i64 0, .int .i64 0, .int .i64 0, .bool false, .bool false] 45) := ⟨_, rfl⟩
  have e1 : Ex (fun _ => False) w W := by rw [hW]; exact ((Ex.refl _ w).alloc _).alloc _
  have HR : Hid (CS W w.heap.size .zero) := by
    rw [hW]; exact (cs_alloc w .zero 45).other ((Ex.refl (fun _ => False) _).alloc _) id
  have HM : Hid (MC W W p (w.heap.size + 1) a cp s x .zero) := by
    refine ⟨h.new e1, ?_, Ex.refl _ _, by omega, haq⟩
    rw [hW]
    have := cs_alloc (w.alloc (.cells #[.int .i64 0, .int .i64 0, .int .i64 0, .int .i64 0, .int .i64 0, .int .i64 0, .int .i64 0, .bool false, .bool false] 45)) .zero 45
    rw [show (w.alloc (.cells #[.int .i64 0, .int .i64 0, .int .i64 0, .int .i64 0, .int .i64 0, .int .i64 0, .int .i64 0, .bool false, .bool false] 45)).heap.size = w.heap.size + 1 by simp] at this
    exact this
  clear h e1
  have hpq : p < w.heap.size + 1 := by omega
  have hne : ¬ PQ p (w.heap.size + 1) w.heap.size := by rintro (x | x) <;> omega
  have hne1 : ¬ w.heap.size = p := by omega
  obtain ⟨b1, hb1⟩ : ∃ y, isW x s_route = y := ⟨_, rfl⟩
  obtain ⟨b2, hb2⟩ : ∃ y, isW x s_acl = y := ⟨_, rfl⟩
  obtain ⟨b3, hb3⟩ : ∃ y, isW x s_link = y := ⟨_, rfl⟩
  obtain ⟨b4, hb4⟩ : ∃ y, isW x s_iface = y := ⟨_, rfl⟩
  obtain ⟨x1, hx1⟩ : ∃ y, advP s x = y := ⟨_, rfl⟩
  obtain ⟨xu, hxu⟩ : ∃ y, unexP x = y := ⟨_, rfl⟩
  obtain ⟨v1, hv1⟩ : ∃ y, bndV 3 15 x1 = y := ⟨_, rfl⟩
  obtain ⟨x2, hx2⟩ : ∃ y, bndP s 3 15 x1 = y := ⟨_, rfl⟩
  obtain ⟨u, hu⟩ : ∃ y, eitB x2 s_up = y := ⟨_, rfl⟩
  obtain ⟨x3, hx3⟩ : ∃ y, eitP s s_up s_down x2 = y := ⟨_, rfl⟩
  obtain ⟨xr, cr, hxr⟩ : ∃ y z, routeX s x1 .zero = (y, z) := ⟨_, _, rfl⟩
  obtain ⟨xa, ca, hxa⟩ : ∃ y z, aclX s x1 .zero = (y, z) := ⟨_, _, rfl⟩
  obtain ⟨xl, cl_, hxl⟩ : ∃ y z, linkX s x1 .zero = (y, z) := ⟨_, _, rfl⟩
  have HF : Hid (changeX s x = if b1 = true then (xr, cr) else if b2 = true then (xa, ca) else if b3 = true then (xl, cl_) else if b4 = true then (x3, { { { Chg.zero with kd := 5 } with dv := v1 } with up := u }) else (xu, .zero)) := by show _ = _; unfold changeX ifaceX; simp only [hb1, hb2, hb3, hb4, hx1, hxu, hv1, hx2, hu, hx3, hxr, hxa, hxl]
  have H_b1 := hide hb1
  have H_b2 := hide hb2
  have H_b3 := hide hb3
  have H_b4 := hide hb4
  have H_x1 := hide hx1
  have H_xu := hide hxu
  have H_v1 := hide hv1
  have H_x2 := hide hx2
  have H_u := hide hu
  have H_x3 := hide hx3
  have H_xr := hide hxr
  have H_xa := hide hxa
  have H_xl := hide hxl
  clear hb1 hb2 hb3 hb4 hx1 hxu hv1 hx2 hu hx3 hxr hxa hxl
  go_enter Try.func34, Try.ntmps34
  go_upto_region 3 with fail
  rw [← hW]
  have HWd := hide hW
  clear hW
  go_wp2_with fail
  refine (isWord_is HM.out.pi H_b1.out).mono ?_
  rintro e w1 ⟨rfl, rfl⟩
  cases b1
  · rw [if_neg (by decide)] at HF
    go_wp2_with fail
    refine (isWord_is HM.out.pi H_b2.out).mono ?_
    rintro e w2 ⟨rfl, rfl⟩
    cases b2
    · rw [if_neg (by decide)] at HF
      go_wp2_with fail
      refine (isWord_is HM.out.pi H_b3.out).mono ?_
      rintro e w3 ⟨rfl, rfl⟩
      cases b3
      · rw [if_neg (by decide)] at HF
        go_wp2_with fail
        refine (isWord_is HM.out.pi H_b4.out).mono ?_
        rintro e w4 ⟨rfl, rfl⟩
        cases b4
        · rw [if_neg (by decide)] at HF
          go_wp2_with fail
          refine (unexpected_is HM.out.pi H_xu.out).mono ?_
          rintro e w5 ⟨rfl, hr, hex⟩
          replace HR := hide (HR.out.other hex hne1)
          replace HM := hide (HM.out.step hr hex)
          clear hr hex
          have HF1 : Hid ((changeX s x).1 = xu ∧ (changeX s x).2 = (Chg.zero)) := by rw [HF.out]; exact ⟨rfl, rfl⟩
          clear HF
          obtain ⟨cf, hcf⟩ : ∃ c, c = Chg.zero := ⟨_, rfl⟩
          rw [← hcf] at HM HF1
          clear hcf
          generalize xu = xf at *
          obtain ⟨kd, dv, hp, pr, ln, ix, cl, pm, up⟩ := cf
          have hm_ := HM.out
          have hr_ := HR.out
          have d0 := hm_.cs.c0
          have R0 := hr_.c0
          have d1 := hm_.cs.c1
          have R1 := hr_.c1
          have d2 := hm_.cs.c2
          have R2 := hr_.c2
          have d3 := hm_.cs.c3
          have R3 := hr_.c3
          have d4 := hm_.cs.c4
          have R4 := hr_.c4
          have d5 := hm_.cs.c5
          have R5 := hr_.c5
          have d6 := hm_.cs.c6
          have R6 := hr_.c6
          have d7 := hm_.cs.c7
          have R7 := hr_.c7
          have d8 := hm_.cs.c8
          have R8 := hr_.c8
          have fr := hm_.cs.fr
          have Rf := hr_.fr
          clear hm_ hr_
          simp only [Chg.zero] at d0 R0 d1 R1 d2 R2 d3 R3 d4 R4 d5 R5 d6 R6 d7 R7 d8 R8
          go_wp2
          exact bodyPost_ret (v := .agg #[.int .i64 kd, .int .i64 dv, .int .i64 hp, .int .i64 pr, .int .i64 ln, .int .i64 ix, .int .i64 cl, .bool pm, .bool up]) (by simp [results, Try.results34, go_sem, R0, R1, R2, R3, R4, R5, R6, R7, R8]) rfl ⟨by rw [HF1.out.2]; rfl, by rw [HF1.out.1]; exact (fin_any HWd.out HM.out rfl hpw hsw).1, (fin_any HWd.out HM.out rfl hpw hsw).2⟩
        · rw [if_pos rfl] at HF
          go_wp2_with fail
          refine (advance_is HM.out.pi H_x1.out).mono ?_
          rintro e w5 ⟨rfl, hr, hex⟩
          replace HR := hide (HR.out.other hex hne1)
          replace HM := hide (HM.out.step hr hex)
          clear hr hex
          have d0 := HM.out.cs.c0
          have fr := HM.out.cs.fr
          go_upto_region 15 with fail
          replace HR := hide (HR.out.other ((Ex.refl (fun k => k = w.heap.size + 1) _).set (p := w.heap.size + 1) (j := 0) rfl (.int .i64 5)) (by omega))
          replace HM := hide (HM.out.put0 5)
          clear d0 fr
          generalize w5.setCell ⟨w.heap.size + 1, 0, none⟩ (.int .i64 5) = w6 at *
          go_wp2_with fail
          refine (device_is HM.out.pi H_v1.out H_x2.out).mono ?_
          rintro e w7 ⟨rfl, hr, hex⟩
          replace HR := hide (HR.out.other hex hne1)
          replace HM := hide (HM.out.step hr hex)
          clear hr hex
          have d1 := HM.out.cs.c1
          have fr := HM.out.cs.fr
          go_upto_region 16 with fail
          replace HR := hide (HR.out.other ((Ex.refl (fun k => k = w.heap.size + 1) _).set (p := w.heap.size + 1) (j := 1) rfl (.int .i64 v1)) (by omega))
          replace HM := hide (HM.out.put1 v1)
          clear d1 fr
          generalize w7.setCell ⟨w.heap.size + 1, 1, none⟩ (.int .i64 v1) = w8 at *
          go_wp2_with fail
          refine (either_is HM.out.pi H_u.out H_x3.out).mono ?_
          rintro e w9 ⟨rfl, hr, hex⟩
          replace HR := hide (HR.out.other hex hne1)
          replace HM := hide (HM.out.step hr hex)
          clear hr hex
          have d8 := HM.out.cs.c8
          have fr := HM.out.cs.fr
          go_upto_region 17 with fail
          replace HR := hide (HR.out.other ((Ex.refl (fun k => k = w.heap.size + 1) _).set (p := w.heap.size + 1) (j := 8) rfl (.bool u)) (by omega))
          replace HM := hide (HM.out.put8 u)
          clear d8 fr
          generalize w9.setCell ⟨w.heap.size + 1, 8, none⟩ (.bool u) = w10 at *
          have HF1 : Hid ((changeX s x).1 = x3 ∧ (changeX s x).2 = (({ { { Chg.zero with kd := 5 } with dv := v1 } with up := u }) : Chg)) := by rw [HF.out]; exact ⟨rfl, rfl⟩
          clear HF
          generalize (({ { { Chg.zero with kd := 5 } with dv := v1 } with up := u }) : Chg) = cf at *
          generalize x3 = xf at *
          obtain ⟨kd, dv, hp, pr, ln, ix, cl, pm, up⟩ := cf
          have hm_ := HM.out
          have hr_ := HR.out
          have d0 := hm_.cs.c0
          have R0 := hr_.c0
          have d1 := hm_.cs.c1
          have R1 := hr_.c1
          have d2 := hm_.cs.c2
          have R2 := hr_.c2
          have d3 := hm_.cs.c3
          have R3 := hr_.c3
          have d4 := hm_.cs.c4
          have R4 := hr_.c4
          have d5 := hm_.cs.c5
          have R5 := hr_.c5
          have d6 := hm_.cs.c6
          have R6 := hr_.c6
          have d7 := hm_.cs.c7
          have R7 := hr_.c7
          have d8 := hm_.cs.c8
          have R8 := hr_.c8
          have fr := hm_.cs.fr
          have Rf := hr_.fr
          clear hm_ hr_
          simp only [Chg.zero] at d0 R0 d1 R1 d2 R2 d3 R3 d4 R4 d5 R5 d6 R6 d7 R7 d8 R8
          go_wp2
          exact bodyPost_ret (v := .agg #[.int .i64 kd, .int .i64 dv, .int .i64 hp, .int .i64 pr, .int .i64 ln, .int .i64 ix, .int .i64 cl, .bool pm, .bool up]) (by simp [results, Try.results34, go_sem, R0, R1, R2, R3, R4, R5, R6, R7, R8]) rfl ⟨by rw [HF1.out.2]; rfl, by rw [HF1.out.1]; exact (fin_any HWd.out HM.out rfl hpw hsw).1, (fin_any HWd.out HM.out rfl hpw hsw).2⟩
      · rw [if_pos rfl] at HF
        go_wp2_with fail
        refine (advance_is HM.out.pi H_x1.out).mono ?_
        rintro e w5 ⟨rfl, hr, hex⟩
        replace HR := hide (HR.out.other hex hne1)
        replace HM := hide (HM.out.step hr hex)
        clear hr hex
        go_wp2_with fail
        refine (link_any _ p (w.heap.size + 1) a cp s x1 .zero HM.out.pi HM.out.cs hpq haq).mono ?_
        rintro e w6 ⟨rfl, hr⟩
        replace HR := hide (HR.out.other hr.ex hne)
        replace HM := hide (HM.out.thn hr)
        clear hr
        rw [H_xl.out] at HM
        have HF1 : Hid ((changeX s x).1 = xl ∧ (changeX s x).2 = cl_) := by rw [HF.out]; exact ⟨rfl, rfl⟩
        clear HF
        generalize cl_ = cf at *
        generalize xl = xf at *
        obtain ⟨kd, dv, hp, pr, ln, ix, cl, pm, up⟩ := cf
        have hm_ := HM.out
        have hr_ := HR.out
        have d0 := hm_.cs.c0
        have R0 := hr_.c0
        have d1 := hm_.cs.c1
        have R1 := hr_.c1
        have d2 := hm_.cs.c2
        have R2 := hr_.c2
        have d3 := hm_.cs.c3
        have R3 := hr_.c3
        have d4 := hm_.cs.c4
        have R4 := hr_.c4
        have d5 := hm_.cs.c5
        have R5 := hr_.c5
        have d6 := hm_.cs.c6
        have R6 := hr_.c6
        have d7 := hm_.cs.c7
        have R7 := hr_.c7
        have d8 := hm_.cs.c8
        have R8 := hr_.c8
        have fr := hm_.cs.fr
        have Rf := hr_.fr
        clear hm_ hr_
        simp only [Chg.zero] at d0 R0 d1 R1 d2 R2 d3 R3 d4 R4 d5 R5 d6 R6 d7 R7 d8 R8
        go_wp2
        exact bodyPost_ret (v := .agg #[.int .i64 kd, .int .i64 dv, .int .i64 hp, .int .i64 pr, .int .i64 ln, .int .i64 ix, .int .i64 cl, .bool pm, .bool up]) (by simp [results, Try.results34, go_sem, R0, R1, R2, R3, R4, R5, R6, R7, R8]) rfl ⟨by rw [HF1.out.2]; rfl, by rw [HF1.out.1]; exact (fin_any HWd.out HM.out rfl hpw hsw).1, (fin_any HWd.out HM.out rfl hpw hsw).2⟩
    · rw [if_pos rfl] at HF
      go_wp2_with fail
      refine (advance_is HM.out.pi H_x1.out).mono ?_
      rintro e w5 ⟨rfl, hr, hex⟩
      replace HR := hide (HR.out.other hex hne1)
      replace HM := hide (HM.out.step hr hex)
      clear hr hex
      go_wp2_with fail
      refine (acl_any _ p (w.heap.size + 1) a cp s x1 .zero HM.out.pi HM.out.cs hpq haq).mono ?_
      rintro e w6 ⟨rfl, hr⟩
      replace HR := hide (HR.out.other hr.ex hne)
      replace HM := hide (HM.out.thn hr)
      clear hr
      rw [H_xa.out] at HM
      have HF1 : Hid ((changeX s x).1 = xa ∧ (changeX s x).2 = ca) := by rw [HF.out]; exact ⟨rfl, rfl⟩
      clear HF
      generalize ca = cf at *
      generalize xa = xf at *
      obtain ⟨kd, dv, hp, pr, ln, ix, cl, pm, up⟩ := cf
      have hm_ := HM.out
      have hr_ := HR.out
      have d0 := hm_.cs.c0
      have R0 := hr_.c0
      have d1 := hm_.cs.c1
      have R1 := hr_.c1
      have d2 := hm_.cs.c2
      have R2 := hr_.c2
      have d3 := hm_.cs.c3
      have R3 := hr_.c3
      have d4 := hm_.cs.c4
      have R4 := hr_.c4
      have d5 := hm_.cs.c5
      have R5 := hr_.c5
      have d6 := hm_.cs.c6
      have R6 := hr_.c6
      have d7 := hm_.cs.c7
      have R7 := hr_.c7
      have d8 := hm_.cs.c8
      have R8 := hr_.c8
      have fr := hm_.cs.fr
      have Rf := hr_.fr
      clear hm_ hr_
      simp only [Chg.zero] at d0 R0 d1 R1 d2 R2 d3 R3 d4 R4 d5 R5 d6 R6 d7 R7 d8 R8
      go_wp2
      exact bodyPost_ret (v := .agg #[.int .i64 kd, .int .i64 dv, .int .i64 hp, .int .i64 pr, .int .i64 ln, .int .i64 ix, .int .i64 cl, .bool pm, .bool up]) (by simp [results, Try.results34, go_sem, R0, R1, R2, R3, R4, R5, R6, R7, R8]) rfl ⟨by rw [HF1.out.2]; rfl, by rw [HF1.out.1]; exact (fin_any HWd.out HM.out rfl hpw hsw).1, (fin_any HWd.out HM.out rfl hpw hsw).2⟩
  · rw [if_pos rfl] at HF
    go_wp2_with fail
    refine (advance_is HM.out.pi H_x1.out).mono ?_
    rintro e w5 ⟨rfl, hr, hex⟩
    replace HR := hide (HR.out.other hex hne1)
    replace HM := hide (HM.out.step hr hex)
    clear hr hex
    go_wp2_with fail
    refine (route_any _ p (w.heap.size + 1) a cp s x1 .zero HM.out.pi HM.out.cs hpq haq).mono ?_
    rintro e w6 ⟨rfl, hr⟩
    replace HR := hide (HR.out.other hr.ex hne)
    replace HM := hide (HM.out.thn hr)
    clear hr
    rw [H_xr.out] at HM
    have HF1 : Hid ((changeX s x).1 = xr ∧ (changeX s x).2 = cr) := by rw [HF.out]; exact ⟨rfl, rfl⟩
    clear HF
    generalize cr = cf at *
    generalize xr = xf at *
    obtain ⟨kd, dv, hp, pr, ln, ix, cl, pm, up⟩ := cf
    have hm_ := HM.out
    have hr_ := HR.out
    have d0 := hm_.cs.c0
    have R0 := hr_.c0
    have d1 := hm_.cs.c1
    have R1 := hr_.c1
    have d2 := hm_.cs.c2
    have R2 := hr_.c2
    have d3 := hm_.cs.c3
    have R3 := hr_.c3
    have d4 := hm_.cs.c4
    have R4 := hr_.c4
    have d5 := hm_.cs.c5
    have R5 := hr_.c5
    have d6 := hm_.cs.c6
    have R6 := hr_.c6
    have d7 := hm_.cs.c7
    have R7 := hr_.c7
    have d8 := hm_.cs.c8
    have R8 := hr_.c8
    have fr := hm_.cs.fr
    have Rf := hr_.fr
    clear hm_ hr_
    simp only [Chg.zero] at d0 R0 d1 R1 d2 R2 d3 R3 d4 R4 d5 R5 d6 R6 d7 R7 d8 R8
    go_wp2
    exact bodyPost_ret (v := .agg #[.int .i64 kd, .int .i64 dv, .int .i64 hp, .int .i64 pr, .int .i64 ln, .int .i64 ix, .int .i64 cl, .bool pm, .bool up]) (by simp [results, Try.results34, go_sem, R0, R1, R2, R3, R4, R5, R6, R7, R8]) rfl ⟨by rw [HF1.out.2]; rfl, by rw [HF1.out.1]; exact (fin_any HWd.out HM.out rfl hpw hsw).1, (fin_any HWd.out HM.out rfl hpw hsw).2⟩
end Go.Proofs.Qxb6500778a
