import Derived.Test.Qxb6500778aChg2
namespace Go.Proofs.Qxb6500778a
open Go.RowKit

/-- The parser's start of a change: two boxes. -/
theorem fin_any {w W w' : World} {p r0 : Nat} {a : Option Addr} {n c : Nat} {er : Int} {kd dv hp pr ln ix cl : Int} {pm up : Bool} {o1 o2 : Obj} (hW : W = (w.alloc o1).alloc o2) (h : MC W w' p (r0 + 1) a n c er kd dv hp pr ln ix cl pm up) (hr : w.heap.size = r0) (hpw : p < w.heap.size) {y0 y1 y2 y3 y4 y5 y6 y7 y8 : Value} :
    PI (((((((((w'.setCell ⟨r0, 0, none⟩ y0).setCell ⟨r0, 1, none⟩ y1).setCell ⟨r0, 2, none⟩ y2).setCell ⟨r0, 3, none⟩ y3).setCell ⟨r0, 4, none⟩ y4).setCell ⟨r0, 5, none⟩ y5).setCell ⟨r0, 6, none⟩ y6).setCell ⟨r0, 7, none⟩ y7).setCell ⟨r0, 8, none⟩ y8) p a n c er ∧ Ex (Is p) w (((((((((w'.setCell ⟨r0, 0, none⟩ y0).setCell ⟨r0, 1, none⟩ y1).setCell ⟨r0, 2, none⟩ y2).setCell ⟨r0, 3, none⟩ y3).setCell ⟨r0, 4, none⟩ y4).setCell ⟨r0, 5, none⟩ y5).setCell ⟨r0, 6, none⟩ y6).setCell ⟨r0, 7, none⟩ y7).setCell ⟨r0, 8, none⟩ y8) := by
  subst hW
  have e : Ex (Is r0) w' (((((((((w'.setCell ⟨r0, 0, none⟩ y0).setCell ⟨r0, 1, none⟩ y1).setCell ⟨r0, 2, none⟩ y2).setCell ⟨r0, 3, none⟩ y3).setCell ⟨r0, 4, none⟩ y4).setCell ⟨r0, 5, none⟩ y5).setCell ⟨r0, 6, none⟩ y6).setCell ⟨r0, 7, none⟩ y7).setCell ⟨r0, 8, none⟩ y8) := ((((((((((Ex.refl (Is r0) w').set (p := r0) rfl _).set (p := r0) rfl _).set (p := r0) rfl _).set (p := r0) rfl _).set (p := r0) rfl _).set (p := r0) rfl _).set (p := r0) rfl _).set (p := r0) rfl _).set (p := r0) rfl _)
  have hex : Ex (Is p) w w' := by
    refine ⟨h.ex.os, h.ex.tape, h.ex.output, Nat.le_trans (by simp; omega) h.ex.size, fun k hk hn => ?_⟩
    rw [h.ex.block k (by simp; omega) (by rintro (x | x); exact hn x; omega)]
    rw [Below.heap_alloc _ _ _ (by simp; omega), Below.heap_alloc _ _ _ hk]
  replace hr : w.heap.size ≤ r0 := Nat.le_of_eq hr
  exact ⟨h.pi.other e (fun k hk (x : k = r0) => by omega), (((((((((hex.setNew hr _).setNew hr _).setNew hr _).setNew hr _).setNew hr _).setNew hr _).setNew hr _).setNew hr _).setNew hr _)⟩
def ChangePost (w : World) (p : Nat) (a : Option Addr) (n c : Nat) (er : Int) (e : Ending) (w' : World) : Prop :=
  ∃ er' kd dv hp pr ln ix cl pm up, e = .returned (.agg #[.int .i64 kd, .int .i64 dv, .int .i64 hp, .int .i64 pr, .int .i64 ln, .int .i64 ix, .int .i64 cl, .bool pm, .bool up]) ∧ (er' = 0 → er = 0 ∧ GoodC kd dv hp pr ln ix cl pm up) ∧ PI w' p a n c er' ∧ Ex (Is p) w w'
set_option maxRecDepth 100000 in
set_option maxHeartbeats 8000000 in
theorem change_any (w : World) (p : Nat) (a : Option Addr) (n c : Nat) (er : Int) (h : PI w p a n c er) :
    Calls Try.prog 34 #[.pointer (some ⟨p, 0, none⟩)] w (ChangePost w p a n c er) := by
  have hpw : p < w.heap.size := by
    obtain ⟨pos, k, tp, s, v, at_, hps, _⟩ := h
    exact World.block_lt_of_cell? _ _ hps.c0
  obtain ⟨W, hW⟩ : ∃ W, W = (w.alloc (.cells #[.int .i64 0, .int .i64 0, .int .i64 0, .int .i64 0, .int .i64 0, .int .i64 0, .int .i64 0, .bool false, .bool false] 45)).alloc (.cells #[.int .i64 0, .int .i64 0, .int .i64 0, .int .i64 0, .int .i64 0, .int .i64 0, .int .i64 0, .bool false, .bool false] 45) := ⟨_, rfl⟩
  have e1 : Ex (fun _ => False) w W := by rw [hW]; exact ((Ex.refl _ w).alloc _).alloc _
  have HR : Hid (CS W w.heap.size 0 0 0 0 0 0 0 false false) := by
    rw [hW]; exact (cs_alloc w 0 0 0 0 0 0 0 false false 45).other ((Ex.refl (fun _ => False) _).alloc _) id
  have HM : Hid (MC W W p (w.heap.size + 1) a n c er 0 0 0 0 0 0 0 false false) := by
    refine ⟨h.other e1 (fun _ _ h => h), ?_, Ex.refl _ _, by omega⟩
    rw [hW]
    have := cs_alloc (w.alloc (.cells #[.int .i64 0, .int .i64 0, .int .i64 0, .int .i64 0, .int .i64 0, .int .i64 0, .int .i64 0, .bool false, .bool false] 45)) 0 0 0 0 0 0 0 false false 45
    simpa using this
  clear h e1
  have hpq : p < w.heap.size + 1 := by omega
  have hne : ¬ PQ p (w.heap.size + 1) w.heap.size := by rintro (x | x) <;> omega
  have hne1 : ¬ Is p w.heap.size := fun (x : w.heap.size = p) => by omega
  go_enter Try.func34, Try.ntmps34
  go_upto_region 3 with fail
  rw [← hW]
  have HWd := hide hW
  clear hW
  go_wp2_with fail
  refine (isWord_any _ p a n c er _ HM.out.pi).mono ?_
  rintro e w1 ⟨b1, rfl, rfl⟩
  cases b1
  · go_wp2_with fail
    refine (isWord_any _ p a n c er _ HM.out.pi).mono ?_
    rintro e w2 ⟨b2, rfl, rfl⟩
    cases b2
    · go_wp2_with fail
      refine (isWord_any _ p a n c er _ HM.out.pi).mono ?_
      rintro e w3 ⟨b3, rfl, rfl⟩
      cases b3
      · go_wp2_with fail
        refine (isWord_any _ p a n c er _ HM.out.pi).mono ?_
        rintro e w4 ⟨b4, rfl, rfl⟩
        cases b4
        · go_wp2_with fail
          refine (unexpected_any _ p a n c er HM.out.pi).mono ?_
          rintro e w5 ⟨rfl, ⟨e1, he1, e1p⟩, e1e⟩
          replace HR := hide (HR.out.other e1e hne1)
          replace HM := hide (HM.out.step e1p e1e)
          clear e1p e1e
          have hm_ := HM.out
          have hr_ := HR.out
          have d0 := hm_.cs.c0
          have R0 := hr_.c0
          have d1 := hm_.cs.c1
          have R1 := hr_.c1
          have d2 := hm_.cs.c2
          have R2 := hr_.c2
          have d3 := hm_.cs.c3
          have R3 := hr_.c3
          have d4 := hm_.cs.c4
          have R4 := hr_.c4
          have d5 := hm_.cs.c5
          have R5 := hr_.c5
          have d6 := hm_.cs.c6
          have R6 := hr_.c6
          have d7 := hm_.cs.c7
          have R7 := hr_.c7
          have d8 := hm_.cs.c8
          have R8 := hr_.c8
          have fr := hm_.cs.fr
          have Rf := hr_.fr
          clear hm_ hr_
          go_wp2
          exact bodyPost_ret (v := .agg #[.int .i64 (0), .int .i64 (0), .int .i64 (0), .int .i64 (0), .int .i64 (0), .int .i64 (0), .int .i64 (0), .bool false, .bool false]) (by simp [results, Try.results34, go_sem, R0, R1, R2, R3, R4, R5, R6, R7, R8]) rfl ⟨e1, 0, 0, 0, 0, 0, 0, 0, false, false, rfl, fun h => absurd h he1, (fin_any HWd.out HM.out rfl hpw).1, (fin_any HWd.out HM.out rfl hpw).2⟩

        · go_wp2_with fail
          refine (advance_any _ p a n c er HM.out.pi).mono ?_
          rintro e w5 ⟨rfl, e1p, e1e⟩
          replace HR := hide (HR.out.other e1e hne1)
          replace HM := hide (HM.out.step e1p e1e)
          clear e1p e1e
          have d0 := HM.out.cs.c0
          have fr := HM.out.cs.fr
          go_upto_region 15 with fail
          replace HR := hide (HR.out.other ((Ex.refl (Is (w.heap.size + 1)) _).set (p := w.heap.size + 1) (j := 0) rfl (.int .i64 5)) (fun (x : w.heap.size = w.heap.size + 1) => by omega))
          replace HM := hide (HM.out.put0 (kd' := 5))
          clear d0 fr
          generalize w5.setCell ⟨w.heap.size + 1, 0, none⟩ (.int .i64 5) = w6 at *
          go_wp2_with fail
          refine (device_any _ p a n c er HM.out.pi).mono ?_
          rintro e w7 ⟨⟨x, rfl, x0, x1⟩, ⟨e2, e2h, e2p⟩, e2e⟩
          replace HR := hide (HR.out.other e2e hne1)
          replace HM := hide (HM.out.step e2p e2e)
          clear e2p e2e
          have d1 := HM.out.cs.c1
          have fr := HM.out.cs.fr
          go_upto_region 16 with fail
          replace HR := hide (HR.out.other ((Ex.refl (Is (w.heap.size + 1)) _).set (p := w.heap.size + 1) (j := 1) rfl (.int .i64 x)) (fun (x : w.heap.size = w.heap.size + 1) => by omega))
          replace HM := hide (HM.out.put1 (dv' := x))
          clear d1 fr
          generalize w7.setCell ⟨w.heap.size + 1, 1, none⟩ (.int .i64 x) = w8 at *
          go_wp2_with fail
          refine (either_any _ p a n c e2 _ _ HM.out.pi).mono ?_
          rintro e w9 ⟨⟨bb, rfl⟩, ⟨e3, e3h, e3p⟩, e3e⟩
          replace HR := hide (HR.out.other e3e hne1)
          replace HM := hide (HM.out.step e3p e3e)
          clear e3p e3e
          have d8 := HM.out.cs.c8
          have fr := HM.out.cs.fr
          go_upto_region 17 with fail
          replace HR := hide (HR.out.other ((Ex.refl (Is (w.heap.size + 1)) _).set (p := w.heap.size + 1) (j := 8) rfl (.bool bb)) (fun (x : w.heap.size = w.heap.size + 1) => by omega))
          replace HM := hide (HM.out.put8 (up' := bb))
          clear d8 fr
          generalize w9.setCell ⟨w.heap.size + 1, 8, none⟩ (.bool bb) = w10 at *
          have hm_ := HM.out
          have hr_ := HR.out
          have d0 := hm_.cs.c0
          have R0 := hr_.c0
          have d1 := hm_.cs.c1
          have R1 := hr_.c1
          have d2 := hm_.cs.c2
          have R2 := hr_.c2
          have d3 := hm_.cs.c3
          have R3 := hr_.c3
          have d4 := hm_.cs.c4
          have R4 := hr_.c4
          have d5 := hm_.cs.c5
          have R5 := hr_.c5
          have d6 := hm_.cs.c6
          have R6 := hr_.c6
          have d7 := hm_.cs.c7
          have R7 := hr_.c7
          have d8 := hm_.cs.c8
          have R8 := hr_.c8
          have fr := hm_.cs.fr
          have Rf := hr_.fr
          clear hm_ hr_
          go_wp2
          exact bodyPost_ret (v := .agg #[.int .i64 (5), .int .i64 (x), .int .i64 (0), .int .i64 (0), .int .i64 (0), .int .i64 (0), .int .i64 (0), .bool false, .bool bb]) (by simp [results, Try.results34, go_sem, R0, R1, R2, R3, R4, R5, R6, R7, R8]) rfl ⟨e3, 5, x, 0, 0, 0, 0, 0, false, bb, rfl, fun h => ⟨e2h (e3h h), ⟨x0, x1⟩, Or.inr (Or.inr (Or.inr (Or.inr (Or.inr ⟨rfl, rfl, rfl, rfl, rfl, rfl, rfl⟩))))⟩, (fin_any HWd.out HM.out rfl hpw).1, (fin_any HWd.out HM.out rfl hpw).2⟩

      · go_wp2_with fail
        refine (advance_any _ p a n c er HM.out.pi).mono ?_
        rintro e w5 ⟨rfl, e1p, e1e⟩
        replace HR := hide (HR.out.other e1e hne1)
        replace HM := hide (HM.out.step e1p e1e)
        clear e1p e1e
        go_wp2_with fail
        refine (link_any _ p (w.heap.size + 1) a n c er HM.out.pi HM.out.cs hpq).mono ?_
        rintro e w6 ⟨rfl, e2, kd, dv, hp, pr, ln, ix, cl, pm, up, e2h, e2m⟩
        replace HR := hide (HR.out.other e2m.ex hne)
        replace HM := hide (HM.out.thn e2m)
        clear e2m
        have hm_ := HM.out
        have hr_ := HR.out
        have d0 := hm_.cs.c0
        have R0 := hr_.c0
        have d1 := hm_.cs.c1
        have R1 := hr_.c1
        have d2 := hm_.cs.c2
        have R2 := hr_.c2
        have d3 := hm_.cs.c3
        have R3 := hr_.c3
        have d4 := hm_.cs.c4
        have R4 := hr_.c4
        have d5 := hm_.cs.c5
        have R5 := hr_.c5
        have d6 := hm_.cs.c6
        have R6 := hr_.c6
        have d7 := hm_.cs.c7
        have R7 := hr_.c7
        have d8 := hm_.cs.c8
        have R8 := hr_.c8
        have fr := hm_.cs.fr
        have Rf := hr_.fr
        clear hm_ hr_
        go_wp2
        exact bodyPost_ret (v := .agg #[.int .i64 (kd), .int .i64 (dv), .int .i64 (hp), .int .i64 (pr), .int .i64 (ln), .int .i64 (ix), .int .i64 (cl), .bool pm, .bool up]) (by simp [results, Try.results34, go_sem, R0, R1, R2, R3, R4, R5, R6, R7, R8]) rfl ⟨e2, kd, dv, hp, pr, ln, ix, cl, pm, up, rfl, e2h, (fin_any HWd.out HM.out rfl hpw).1, (fin_any HWd.out HM.out rfl hpw).2⟩

    · go_wp2_with fail
      refine (advance_any _ p a n c er HM.out.pi).mono ?_
      rintro e w5 ⟨rfl, e1p, e1e⟩
      replace HR := hide (HR.out.other e1e hne1)
      replace HM := hide (HM.out.step e1p e1e)
      clear e1p e1e
      go_wp2_with fail
      refine (acl_any _ p (w.heap.size + 1) a n c er HM.out.pi HM.out.cs hpq).mono ?_
      rintro e w6 ⟨rfl, e2, kd, dv, hp, pr, ln, ix, cl, pm, up, e2h, e2m⟩
      replace HR := hide (HR.out.other e2m.ex hne)
      replace HM := hide (HM.out.thn e2m)
      clear e2m
      have hm_ := HM.out
      have hr_ := HR.out
      have d0 := hm_.cs.c0
      have R0 := hr_.c0
      have d1 := hm_.cs.c1
      have R1 := hr_.c1
      have d2 := hm_.cs.c2
      have R2 := hr_.c2
      have d3 := hm_.cs.c3
      have R3 := hr_.c3
      have d4 := hm_.cs.c4
      have R4 := hr_.c4
      have d5 := hm_.cs.c5
      have R5 := hr_.c5
      have d6 := hm_.cs.c6
      have R6 := hr_.c6
      have d7 := hm_.cs.c7
      have R7 := hr_.c7
      have d8 := hm_.cs.c8
      have R8 := hr_.c8
      have fr := hm_.cs.fr
      have Rf := hr_.fr
      clear hm_ hr_
      go_wp2
      exact bodyPost_ret (v := .agg #[.int .i64 (kd), .int .i64 (dv), .int .i64 (hp), .int .i64 (pr), .int .i64 (ln), .int .i64 (ix), .int .i64 (cl), .bool pm, .bool up]) (by simp [results, Try.results34, go_sem, R0, R1, R2, R3, R4, R5, R6, R7, R8]) rfl ⟨e2, kd, dv, hp, pr, ln, ix, cl, pm, up, rfl, e2h, (fin_any HWd.out HM.out rfl hpw).1, (fin_any HWd.out HM.out rfl hpw).2⟩

  · go_wp2_with fail
    refine (advance_any _ p a n c er HM.out.pi).mono ?_
    rintro e w5 ⟨rfl, e1p, e1e⟩
    replace HR := hide (HR.out.other e1e hne1)
    replace HM := hide (HM.out.step e1p e1e)
    clear e1p e1e
    go_wp2_with fail
    refine (route_any _ p (w.heap.size + 1) a n c er HM.out.pi HM.out.cs hpq).mono ?_
    rintro e w6 ⟨rfl, e2, kd, dv, hp, pr, ln, ix, cl, pm, up, e2h, e2m⟩
    replace HR := hide (HR.out.other e2m.ex hne)
    replace HM := hide (HM.out.thn e2m)
    clear e2m
    have hm_ := HM.out
    have hr_ := HR.out
    have d0 := hm_.cs.c0
    have R0 := hr_.c0
    have d1 := hm_.cs.c1
    have R1 := hr_.c1
    have d2 := hm_.cs.c2
    have R2 := hr_.c2
    have d3 := hm_.cs.c3
    have R3 := hr_.c3
    have d4 := hm_.cs.c4
    have R4 := hr_.c4
    have d5 := hm_.cs.c5
    have R5 := hr_.c5
    have d6 := hm_.cs.c6
    have R6 := hr_.c6
    have d7 := hm_.cs.c7
    have R7 := hr_.c7
    have d8 := hm_.cs.c8
    have R8 := hr_.c8
    have fr := hm_.cs.fr
    have Rf := hr_.fr
    clear hm_ hr_
    go_wp2
    exact bodyPost_ret (v := .agg #[.int .i64 (kd), .int .i64 (dv), .int .i64 (hp), .int .i64 (pr), .int .i64 (ln), .int .i64 (ix), .int .i64 (cl), .bool pm, .bool up]) (by simp [results, Try.results34, go_sem, R0, R1, R2, R3, R4, R5, R6, R7, R8]) rfl ⟨e2, kd, dv, hp, pr, ln, ix, cl, pm, up, rfl, e2h, (fin_any HWd.out HM.out rfl hpw).1, (fin_any HWd.out HM.out rfl hpw).2⟩

end Go.Proofs.Qxb6500778a
