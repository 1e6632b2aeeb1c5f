import Derived.Test.Qxb6500778aPar
import Derived.Test.Qxb6500778aGood
namespace Go.Proofs.Qxb6500778a
open Go.RowKit

def PQ (p q : Nat) : Nat → Prop := fun k => k = p ∨ k = q
/-- The parser at p, and the change at q that is being filled. -/
structure MC (w0 w : World) (p q : Nat) (a : Option Addr) (n c : Nat) (er : Int) (kd dv hp pr ln ix cl : Int) (pm up : Bool) : Prop where
  pi : PI w p a n c er
  cs : CS w q kd dv hp pr ln ix cl pm up
  ex : Ex (PQ p q) w0 w
  lt : p < q
theorem MC.step {w0 w w' : World} {p q : Nat} {a : Option Addr} {n c : Nat} {er er' : Int} {kd dv hp pr ln ix cl : Int} {pm up : Bool} (h : MC w0 w p q a n c er kd dv hp pr ln ix cl pm up) (hpi : PI w' p a n c er') (e : Ex (Is p) w w') : MC w0 w' p q a n c er' kd dv hp pr ln ix cl pm up :=
  ⟨hpi, h.cs.other e (fun (x : q = p) => by have := h.lt; omega), h.ex.trans (e.mono fun k hk => Or.inl hk), h.lt⟩
theorem MC.put0 {w0 w : World} {p q : Nat} {a : Option Addr} {n c : Nat} {er : Int} {kd dv hp pr ln ix cl : Int} {pm up : Bool} {kd' : Int} (h : MC w0 w p q a n c er kd dv hp pr ln ix cl pm up) : MC w0 (w.setCell ⟨q, 0, none⟩ (.int .i64 kd')) p q a n c er kd' dv hp pr ln ix cl pm up := by
  have e : Ex (Is q) w (w.setCell ⟨q, 0, none⟩ (.int .i64 kd')) := (Ex.refl (Is q) w).set (p := q) rfl _
  have hl := h.lt
  exact ⟨h.pi.other e (fun k hk (x : k = q) => by omega), h.cs.put0, h.ex.trans (e.mono fun k hk => Or.inr hk), hl⟩
theorem MC.put1 {w0 w : World} {p q : Nat} {a : Option Addr} {n c : Nat} {er : Int} {kd dv hp pr ln ix cl : Int} {pm up : Bool} {dv' : Int} (h : MC w0 w p q a n c er kd dv hp pr ln ix cl pm up) : MC w0 (w.setCell ⟨q, 1, none⟩ (.int .i64 dv')) p q a n c er kd dv' hp pr ln ix cl pm up := by
  have e : Ex (Is q) w (w.setCell ⟨q, 1, none⟩ (.int .i64 dv')) := (Ex.refl (Is q) w).set (p := q) rfl _
  have hl := h.lt
  exact ⟨h.pi.other e (fun k hk (x : k = q) => by omega), h.cs.put1, h.ex.trans (e.mono fun k hk => Or.inr hk), hl⟩
theorem MC.put2 {w0 w : World} {p q : Nat} {a : Option Addr} {n c : Nat} {er : Int} {kd dv hp pr ln ix cl : Int} {pm up : Bool} {hp' : Int} (h : MC w0 w p q a n c er kd dv hp pr ln ix cl pm up) : MC w0 (w.setCell ⟨q, 2, none⟩ (.int .i64 hp')) p q a n c er kd dv hp' pr ln ix cl pm up := by
  have e : Ex (Is q) w (w.setCell ⟨q, 2, none⟩ (.int .i64 hp')) := (Ex.refl (Is q) w).set (p := q) rfl _
  have hl := h.lt
  exact ⟨h.pi.other e (fun k hk (x : k = q) => by omega), h.cs.put2, h.ex.trans (e.mono fun k hk => Or.inr hk), hl⟩
theorem MC.put3 {w0 w : World} {p q : Nat} {a : Option Addr} {n c : Nat} {er : Int} {kd dv hp pr ln ix cl : Int} {pm up : Bool} {pr' : Int} (h : MC w0 w p q a n c er kd dv hp pr ln ix cl pm up) : MC w0 (w.setCell ⟨q, 3, none⟩ (.int .i64 pr')) p q a n c er kd dv hp pr' ln ix cl pm up := by
  have e : Ex (Is q) w (w.setCell ⟨q, 3, none⟩ (.int .i64 pr')) := (Ex.refl (Is q) w).set (p := q) rfl _
  have hl := h.lt
  exact ⟨h.pi.other e (fun k hk (x : k = q) => by omega), h.cs.put3, h.ex.trans (e.mono fun k hk => Or.inr hk), hl⟩
theorem MC.put4 {w0 w : World} {p q : Nat} {a : Option Addr} {n c : Nat} {er : Int} {kd dv hp pr ln ix cl : Int} {pm up : Bool} {ln' : Int} (h : MC w0 w p q a n c er kd dv hp pr ln ix cl pm up) : MC w0 (w.setCell ⟨q, 4, none⟩ (.int .i64 ln')) p q a n c er kd dv hp pr ln' ix cl pm up := by
  have e : Ex (Is q) w (w.setCell ⟨q, 4, none⟩ (.int .i64 ln')) := (Ex.refl (Is q) w).set (p := q) rfl _
  have hl := h.lt
  exact ⟨h.pi.other e (fun k hk (x : k = q) => by omega), h.cs.put4, h.ex.trans (e.mono fun k hk => Or.inr hk), hl⟩
theorem MC.put5 {w0 w : World} {p q : Nat} {a : Option Addr} {n c : Nat} {er : Int} {kd dv hp pr ln ix cl : Int} {pm up : Bool} {ix' : Int} (h : MC w0 w p q a n c er kd dv hp pr ln ix cl pm up) : MC w0 (w.setCell ⟨q, 5, none⟩ (.int .i64 ix')) p q a n c er kd dv hp pr ln ix' cl pm up := by
  have e : Ex (Is q) w (w.setCell ⟨q, 5, none⟩ (.int .i64 ix')) := (Ex.refl (Is q) w).set (p := q) rfl _
  have hl := h.lt
  exact ⟨h.pi.other e (fun k hk (x : k = q) => by omega), h.cs.put5, h.ex.trans (e.mono fun k hk => Or.inr hk), hl⟩
theorem MC.put6 {w0 w : World} {p q : Nat} {a : Option Addr} {n c : Nat} {er : Int} {kd dv hp pr ln ix cl : Int} {pm up : Bool} {cl' : Int} (h : MC w0 w p q a n c er kd dv hp pr ln ix cl pm up) : MC w0 (w.setCell ⟨q, 6, none⟩ (.int .i64 cl')) p q a n c er kd dv hp pr ln ix cl' pm up := by
  have e : Ex (Is q) w (w.setCell ⟨q, 6, none⟩ (.int .i64 cl')) := (Ex.refl (Is q) w).set (p := q) rfl _
  have hl := h.lt
  exact ⟨h.pi.other e (fun k hk (x : k = q) => by omega), h.cs.put6, h.ex.trans (e.mono fun k hk => Or.inr hk), hl⟩
theorem MC.put7 {w0 w : World} {p q : Nat} {a : Option Addr} {n c : Nat} {er : Int} {kd dv hp pr ln ix cl : Int} {pm up : Bool} {pm' : Bool} (h : MC w0 w p q a n c er kd dv hp pr ln ix cl pm up) : MC w0 (w.setCell ⟨q, 7, none⟩ (.bool pm')) p q a n c er kd dv hp pr ln ix cl pm' up := by
  have e : Ex (Is q) w (w.setCell ⟨q, 7, none⟩ (.bool pm')) := (Ex.refl (Is q) w).set (p := q) rfl _
  have hl := h.lt
  exact ⟨h.pi.other e (fun k hk (x : k = q) => by omega), h.cs.put7, h.ex.trans (e.mono fun k hk => Or.inr hk), hl⟩
theorem MC.put8 {w0 w : World} {p q : Nat} {a : Option Addr} {n c : Nat} {er : Int} {kd dv hp pr ln ix cl : Int} {pm up : Bool} {up' : Bool} (h : MC w0 w p q a n c er kd dv hp pr ln ix cl pm up) : MC w0 (w.setCell ⟨q, 8, none⟩ (.bool up')) p q a n c er kd dv hp pr ln ix cl pm up' := by
  have e : Ex (Is q) w (w.setCell ⟨q, 8, none⟩ (.bool up')) := (Ex.refl (Is q) w).set (p := q) rfl _
  have hl := h.lt
  exact ⟨h.pi.other e (fun k hk (x : k = q) => by omega), h.cs.put8, h.ex.trans (e.mono fun k hk => Or.inr hk), hl⟩
theorem MC.drewN {w0 w : World} {p q : Nat} {a : Option Addr} {n c : Nat} {er : Int} {kd dv hp pr ln ix cl : Int} {pm up : Bool} (h : MC w0 w p q a n c er kd dv hp pr ln ix cl pm up) (m : Nat) : MC w0 (w.drewN m) p q a n c er kd dv hp pr ln ix cl pm up :=
  h.step (h.pi.other ((Ex.refl (fun _ => False) w).drewN m) (fun _ _ h => h)) ((Ex.refl _ w).drewN m)
theorem MC.open {w0 w : World} {p q : Nat} {a : Option Addr} {n c : Nat} {er : Int} {kd dv hp pr ln ix cl : Int} {pm up : Bool} (h : MC w0 w p q a n c er kd dv hp pr ln ix cl pm up) : ∃ tp : Int, w.cell? ⟨p, 6, none⟩ = some (.int .i64 er) ∧ w.cell? ⟨p, 3, none⟩ = some (.int .i64 tp) ∧ 0 ≤ tp ∧ tp ≤ n := by
  obtain ⟨pos, k, tp, s, v, at_, hps, ht, hv, ha⟩ := h.pi
  exact ⟨tp, hps.c6, hps.c3, ht.1, ht.2⟩
theorem aligned_is (w : World) (pr ln : Int) (h : 0 ≤ ln ∧ ln ≤ 8) (r : Bool) (hr : algB pr ln = r) : Calls Try.prog 76 #[.int .i64 pr, .int .i64 ln] w fun e w' => e = .returned (.bool r) ∧ w' = w := by
  subst hr; exact aligned_any w pr ln h
theorem mc0 {w : World} {p q : Nat} {a : Option Addr} {n c : Nat} {er kd dv hp pr ln ix cl : Int} {pm up : Bool} (hp0 : PI w p a n c er) (hc0 : CS w q kd dv hp pr ln ix cl pm up) (hpq : p < q) : MC w w p q a n c er kd dv hp pr ln ix cl pm up := ⟨hp0, hc0, Ex.refl _ _, hpq⟩
/-- The prefix is in bounds, and aligned where no fault was noted. -/
def PrefPost (w : World) (p q : Nat) (a : Option Addr) (n c : Nat) (er kd dv hp ix cl : Int) (pm up : Bool) (e : Ending) (w' : World) : Prop :=
  e = .returned (.tuple #[]) ∧ ∃ er' pr' ln', (er' = 0 → er = 0 ∧ algB pr' ln' = true) ∧ (0 ≤ pr' ∧ pr' ≤ 255) ∧ (0 ≤ ln' ∧ ln' ≤ 8) ∧ MC w w' p q a n c er' kd dv hp pr' ln' ix cl pm up
set_option maxRecDepth 100000 in
set_option maxHeartbeats 4000000 in
theorem prefix_any (w : World) (p q : Nat) (a : Option Addr) (n c : Nat) (er kd dv hp pr ln ix cl : Int) (pm up : Bool) (hp0 : PI w p a n c er) (hc0 : CS w q kd dv hp pr ln ix cl pm up) (hpq : p < q) :
    Calls Try.prog 75 #[.pointer (some ⟨p, 0, none⟩), .pointer (some ⟨q, 0, none⟩)] w (PrefPost w p q a n c er kd dv hp ix cl pm up) := by
  have HM := hide (mc0 hp0 hc0 hpq)
  clear hp0 hc0
  go_enter Try.func75, Try.ntmps75
  have hm_ := HM.out
  obtain ⟨tp, c6, c3, tp0, tp1⟩ := hm_.open
  have fr := hm_.cs.fr
  clear hm_
  go_upto_region 1 with fail
  clear c6 c3 fr
  go_wp2_with fail
  refine (bounded_any _ p a n c er 2 255 (by decide) HM.out.pi).mono ?_
  rintro e w1 ⟨⟨x, rfl, x0, x1⟩, ⟨e1, e1h, e1p⟩, e1e⟩
  replace HM := hide (HM.out.step e1p e1e)
  clear e1p e1e
  have hm_ := HM.out
  have d3 := hm_.cs.c3
  have fr := hm_.cs.fr
  clear hm_
  go_upto_region 2 with fail
  replace HM := hide (HM.out.put3 (pr' := x))
  clear d3 fr
  generalize w1.setCell ⟨q, 3, none⟩ (.int .i64 x) = w2 at *
  go_wp2_with fail
  refine (punct_any _ p a n c e1 4 HM.out.pi).mono ?_
  rintro e w3 ⟨rfl, ⟨e2, e2h, e2p⟩, e2e⟩
  replace HM := hide (HM.out.step e2p e2e)
  clear e2p e2e
  go_wp2_with fail
  refine (bounded_any _ p a n c e2 2 8 (by decide) HM.out.pi).mono ?_
  rintro e w4 ⟨⟨y, rfl, y0, y1⟩, ⟨e3, e3h, e3p⟩, e3e⟩
  replace HM := hide (HM.out.step e3p e3e)
  clear e3p e3e
  have hm_ := HM.out
  have d4 := hm_.cs.c4
  have fr := hm_.cs.fr
  clear hm_
  go_upto_region 4 with fail
  replace HM := hide (HM.out.put4 (ln' := y))
  clear d4 fr
  generalize w4.setCell ⟨q, 4, none⟩ (.int .i64 y) = w5 at *
  have hm_ := HM.out
  obtain ⟨tp2, c6, c3, _, _⟩ := hm_.open
  have d3 := hm_.cs.c3
  have d4 := hm_.cs.c4
  clear hm_ c3
  by_cases hz : e3 = 0
  · subst hz
    cases hal : algB x y
    · go_quiet (first | (go_at_call 76; refine Calls.quiet_of_same (aligned_is _ x y ⟨y0, y1⟩ _ hal)))
      replace HM := hide (HM.out.drewN nq)
      go_wp2_with fail
      refine (fail_any _ p a n c 0 3 tp (by decide) ⟨tp0, tp1⟩ HM.out.pi).mono ?_
      rintro e w6 ⟨rfl, ⟨e4, he4, e4p⟩, e4e⟩
      replace HM := hide (HM.out.step e4p e4e)
      clear e4p e4e c6 d3 d4
      go_wp2
      go_end0
      exact ⟨rfl, e4, x, y, fun h => absurd h he4, ⟨x0, x1⟩, ⟨y0, y1⟩, HM.out⟩
    · go_quiet (first | (go_at_call 76; refine Calls.quiet_of_same (aligned_is _ x y ⟨y0, y1⟩ _ hal)))
      replace HM := hide (HM.out.drewN nq)
      have HAL := hide hal
      clear c6 d3 d4 hal
      go_wp2
      go_end0
      exact ⟨rfl, 0, x, y, fun _ => ⟨e1h (e2h (e3h (by first | rfl | trivial))), HAL.out⟩, ⟨x0, x1⟩, ⟨y0, y1⟩, HM.out⟩
  · have hzb : (e3 == 0) = false := by simp [hz]
    go_quiet (fail)
    replace HM := hide (HM.out.drewN nq)
    clear c6 d3 d4
    go_wp2
    go_end0
    exact ⟨rfl, e3, x, y, fun h => absurd h hz, ⟨x0, x1⟩, ⟨y0, y1⟩, HM.out⟩
theorem MC.thn {w0 w w' : World} {p q : Nat} {a : Option Addr} {n c : Nat} {er er' : Int} {kd dv hp pr ln ix cl kd' dv' hp' pr' ln' ix' cl' : Int} {pm up pm' up' : Bool} (h : MC w0 w p q a n c er kd dv hp pr ln ix cl pm up) (k : MC w w' p q a n c er' kd' dv' hp' pr' ln' ix' cl' pm' up') : MC w0 w' p q a n c er' kd' dv' hp' pr' ln' ix' cl' pm' up' :=
  ⟨k.pi, k.cs, h.ex.trans k.ex, h.lt⟩
/-- A change is parsed: good where no fault was noted. -/
def ChgPost (w : World) (p q : Nat) (a : Option Addr) (n c : Nat) (er : Int) (e : Ending) (w' : World) : Prop :=
  e = .returned (.tuple #[]) ∧ ∃ er' kd dv hp pr ln ix cl pm up, (er' = 0 → er = 0 ∧ GoodC kd dv hp pr ln ix cl pm up) ∧ MC w w' p q a n c er' kd dv hp pr ln ix cl pm up
set_option maxRecDepth 100000 in
set_option maxHeartbeats 4000000 in
theorem route_any (w : World) (p q : Nat) (a : Option Addr) (n c : Nat) (er : Int) (hp0 : PI w p a n c er) (hc0 : CS w q 0 0 0 0 0 0 0 false false) (hpq : p < q) :
    Calls Try.prog 54 #[.pointer (some ⟨p, 0, none⟩), .pointer (some ⟨q, 0, none⟩)] w (ChgPost w p q a n c er) := by
  have HM := hide (mc0 hp0 hc0 hpq)
  clear hp0 hc0
  go_enter Try.func54, Try.ntmps54
  go_wp2_with fail
  refine (either_any _ p a n c er _ _ HM.out.pi).mono ?_
  rintro e w1 ⟨⟨b, rfl⟩, ⟨e1, e1h, e1p⟩, e1e⟩
  replace HM := hide (HM.out.step e1p e1e)
  clear e1p e1e
  cases b
  · have hm_ := HM.out
    have d0 := hm_.cs.c0
    have fr := hm_.cs.fr
    clear hm_
    go_upto_region 7 with fail
    replace HM := hide (HM.out.put0 (kd' := 1))
    clear d0 fr
    generalize w1.setCell ⟨q, 0, none⟩ (.int .i64 1) = w2 at *
    go_wp2_with fail
    refine (device_any _ p a n c e1 HM.out.pi).mono ?_
    rintro e w3 ⟨⟨x, rfl, x0, x1⟩, ⟨e2, e2h, e2p⟩, e2e⟩
    replace HM := hide (HM.out.step e2p e2e)
    clear e2p e2e
    have hm_ := HM.out
    have d1 := hm_.cs.c1
    have fr := hm_.cs.fr
    clear hm_
    go_upto_region 8 with fail
    replace HM := hide (HM.out.put1 (dv' := x))
    clear d1 fr
    generalize w3.setCell ⟨q, 1, none⟩ (.int .i64 x) = w4 at *
    go_wp2_with fail
    refine (prefix_any _ p q a n c e2 _ _ _ _ _ _ _ _ _ HM.out.pi HM.out.cs hpq).mono ?_
    rintro e w5 ⟨rfl, e3, u, v, e3h, ⟨u0, u1⟩, ⟨v0, v1⟩, e3m⟩
    replace HM := hide (HM.out.thn e3m)
    clear e3m
    go_wp2
    go_end0
    exact ⟨rfl, e3, 1, x, 0, u, v, 0, 0, false, false, fun h => ⟨e1h (e2h (e3h h).1), ⟨x0, x1⟩, Or.inr (Or.inl ⟨rfl, ⟨⟨v0, v1⟩, ⟨u0, u1⟩, (e3h h).2⟩, rfl, rfl, rfl, rfl, rfl⟩)⟩, HM.out⟩
  · have hm_ := HM.out
    have d0 := hm_.cs.c0
    have fr := hm_.cs.fr
    clear hm_
    go_upto_region 2 with fail
    replace HM := hide (HM.out.put0 (kd' := 0))
    clear d0 fr
    generalize w1.setCell ⟨q, 0, none⟩ (.int .i64 0) = w2 at *
    go_wp2_with fail
    refine (device_any _ p a n c e1 HM.out.pi).mono ?_
    rintro e w3 ⟨⟨x, rfl, x0, x1⟩, ⟨e2, e2h, e2p⟩, e2e⟩
    replace HM := hide (HM.out.step e2p e2e)
    clear e2p e2e
    have hm_ := HM.out
    have d1 := hm_.cs.c1
    have fr := hm_.cs.fr
    clear hm_
    go_upto_region 3 with fail
    replace HM := hide (HM.out.put1 (dv' := x))
    clear d1 fr
    generalize w3.setCell ⟨q, 1, none⟩ (.int .i64 x) = w4 at *
    go_wp2_with fail
    refine (prefix_any _ p q a n c e2 _ _ _ _ _ _ _ _ _ HM.out.pi HM.out.cs hpq).mono ?_
    rintro e w5 ⟨rfl, e3, u, v, e3h, ⟨u0, u1⟩, ⟨v0, v1⟩, e3m⟩
    replace HM := hide (HM.out.thn e3m)
    clear e3m
    go_wp2_with fail
    refine (word_any _ p a n c e3 _ HM.out.pi).mono ?_
    rintro e w6 ⟨rfl, ⟨e4, e4h, e4p⟩, e4e⟩
    replace HM := hide (HM.out.step e4p e4e)
    clear e4p e4e
    go_wp2_with fail
    refine (device_any _ p a n c e4 HM.out.pi).mono ?_
    rintro e w7 ⟨⟨y, rfl, y0, y1⟩, ⟨e5, e5h, e5p⟩, e5e⟩
    replace HM := hide (HM.out.step e5p e5e)
    clear e5p e5e
    have hm_ := HM.out
    have d2 := hm_.cs.c2
    have fr := hm_.cs.fr
    clear hm_
    replace HM := hide (HM.out.put2 (hp' := y))
    go_wp2
    exact bodyPost_ret (v := .tuple #[]) (by simp [results, Try.results54, go_sem]) rfl ⟨rfl, e5, 0, x, y, u, v, 0, 0, false, false, fun h => ⟨e1h (e2h (e3h (e4h (e5h h))).1), ⟨x0, x1⟩, Or.inl ⟨rfl, ⟨⟨v0, v1⟩, ⟨u0, u1⟩, (e3h (e4h (e5h h))).2⟩, ⟨y0, y1⟩, rfl, rfl, rfl, rfl⟩⟩, HM.out⟩
set_option maxRecDepth 100000 in
set_option maxHeartbeats 4000000 in
theorem acl_any (w : World) (p q : Nat) (a : Option Addr) (n c : Nat) (er : Int) (hp0 : PI w p a n c er) (hc0 : CS w q 0 0 0 0 0 0 0 false false) (hpq : p < q) :
    Calls Try.prog 55 #[.pointer (some ⟨p, 0, none⟩), .pointer (some ⟨q, 0, none⟩)] w (ChgPost w p q a n c er) := by
  have HM := hide (mc0 hp0 hc0 hpq)
  clear hp0 hc0
  go_enter Try.func55, Try.ntmps55
  go_wp2_with fail
  refine (either_any _ p a n c er _ _ HM.out.pi).mono ?_
  rintro e w1 ⟨⟨b, rfl⟩, ⟨e1, e1h, e1p⟩, e1e⟩
  replace HM := hide (HM.out.step e1p e1e)
  clear e1p e1e
  have hm_ := HM.out
  have d0 := hm_.cs.c0
  have fr := hm_.cs.fr
  clear hm_
  go_upto_region 2 with fail
  replace HM := hide (HM.out.put0 (kd' := 3))
  clear d0 fr
  generalize w1.setCell ⟨q, 0, none⟩ (.int .i64 3) = w2 at *
  go_wp2_with fail
  refine (device_any _ p a n c e1 HM.out.pi).mono ?_
  rintro e w3 ⟨⟨x, rfl, x0, x1⟩, ⟨e2, e2h, e2p⟩, e2e⟩
  replace HM := hide (HM.out.step e2p e2e)
  clear e2p e2e
  have hm_ := HM.out
  have d1 := hm_.cs.c1
  have fr := hm_.cs.fr
  clear hm_
  go_upto_region 3 with fail
  replace HM := hide (HM.out.put1 (dv' := x))
  clear d1 fr
  generalize w3.setCell ⟨q, 1, none⟩ (.int .i64 x) = w4 at *
  go_wp2_with fail
  refine (word_any _ p a n c e2 _ HM.out.pi).mono ?_
  rintro e w5 ⟨rfl, ⟨e3, e3h, e3p⟩, e3e⟩
  replace HM := hide (HM.out.step e3p e3e)
  clear e3p e3e
  go_wp2_with fail
  refine (bounded_any _ p a n c e3 2 63 (by decide) HM.out.pi).mono ?_
  rintro e w6 ⟨⟨z, rfl, z0, z1⟩, ⟨e4, e4h, e4p⟩, e4e⟩
  replace HM := hide (HM.out.step e4p e4e)
  clear e4p e4e
  have hm_ := HM.out
  have d5 := hm_.cs.c5
  have fr := hm_.cs.fr
  clear hm_
  go_upto_region 5 with fail
  replace HM := hide (HM.out.put5 (ix' := z))
  clear d5 fr
  generalize w6.setCell ⟨q, 5, none⟩ (.int .i64 z) = w7 at *
  cases b
  · go_wp2
    exact bodyPost_ret (v := .tuple #[]) (by simp [results, Try.results55, go_sem]) rfl ⟨rfl, e4, 3, x, 0, 0, 0, z, 0, false, false, fun h => ⟨e1h (e2h (e3h (e4h h))), ⟨x0, x1⟩, Or.inr (Or.inr (Or.inr (Or.inl ⟨rfl, rfl, rfl, rfl, ⟨z0, z1⟩, rfl, rfl, rfl⟩)))⟩, HM.out⟩
  · have hm_ := HM.out
    have d0 := hm_.cs.c0
    have fr := hm_.cs.fr
    clear hm_
    go_upto_region 7 with fail
    replace HM := hide (HM.out.put0 (kd' := 2))
    clear d0 fr
    generalize w7.setCell ⟨q, 0, none⟩ (.int .i64 2) = w8 at *
    go_wp2_with fail
    refine (either_any _ p a n c e4 _ _ HM.out.pi).mono ?_
    rintro e w9 ⟨⟨pm, rfl⟩, ⟨e5, e5h, e5p⟩, e5e⟩
    replace HM := hide (HM.out.step e5p e5e)
    clear e5p e5e
    have hm_ := HM.out
    have d7 := hm_.cs.c7
    have fr := hm_.cs.fr
    clear hm_
    go_upto_region 8 with fail
    replace HM := hide (HM.out.put7 (pm' := pm))
    clear d7 fr
    generalize w9.setCell ⟨q, 7, none⟩ (.bool pm) = w10 at *
    go_wp2_with fail
    refine (prefix_any _ p q a n c e5 _ _ _ _ _ _ _ _ _ HM.out.pi HM.out.cs hpq).mono ?_
    rintro e w11 ⟨rfl, e6, u, v, e6h, ⟨u0, u1⟩, ⟨v0, v1⟩, e6m⟩
    replace HM := hide (HM.out.thn e6m)
    clear e6m
    go_wp2_with fail
    refine (word_any _ p a n c e6 _ HM.out.pi).mono ?_
    rintro e w12 ⟨rfl, ⟨e7, e7h, e7p⟩, e7e⟩
    replace HM := hide (HM.out.step e7p e7e)
    clear e7p e7e
    obtain ⟨tp, c6, c3, _, _⟩ := HM.out.open
    clear c3
    by_cases hz : e7 = 0
    · have hzb : (e7 == 0) = true := by simp [hz]
      go_wp2_with fail
      refine (isWord_any _ p a n c e7 _ HM.out.pi).mono ?_
      rintro e w13 ⟨bb, rfl, rfl⟩
      cases bb
      · go_wp2_with fail
        refine (bounded_any _ p a n c e7 2 15 (by decide) HM.out.pi).mono ?_
        rintro e w13 ⟨⟨y, rfl, y0, y1⟩, ⟨e8, e8h, e8p⟩, e8e⟩
        replace HM := hide (HM.out.step e8p e8e)
        clear e8p e8e c6
        have hm_ := HM.out
        have d6 := hm_.cs.c6
        have fr := hm_.cs.fr
        clear hm_
        replace HM := hide (HM.out.put6 (cl' := y))
        go_wp2
        go_end0
        exact ⟨rfl, e8, 2, x, 0, u, v, z, y, pm, false, fun h => ⟨e1h (e2h (e3h (e4h (e5h (e6h (e7h (e8h h))).1)))), ⟨x0, x1⟩, Or.inr (Or.inr (Or.inl ⟨rfl, ⟨⟨v0, v1⟩, ⟨u0, u1⟩, (e6h (e7h (e8h h))).2⟩, rfl, ⟨z0, z1⟩, ⟨y0, by omega⟩, rfl⟩))⟩, HM.out⟩
      · have hm_ := HM.out
        have d6 := hm_.cs.c6
        have fr := hm_.cs.fr
        clear hm_
        go_upto_region 12 with fail
        replace HM := hide (HM.out.put6 (cl' := 16))
        clear d6 fr c6
        generalize w13.setCell ⟨q, 6, none⟩ (.int .i64 16) = w14 at *
        go_wp2_with fail
        refine (advance_any _ p a n c e7 HM.out.pi).mono ?_
        rintro e w15 ⟨rfl, e8p, e8e⟩
        replace HM := hide (HM.out.step e8p e8e)
        clear e8p e8e
        go_wp2
        exact bodyPost_ret (v := .tuple #[]) (by simp [results, Try.results55, go_sem]) rfl ⟨rfl, e7, 2, x, 0, u, v, z, 16, pm, false, fun h => ⟨e1h (e2h (e3h (e4h (e5h (e6h (e7h h)).1)))), ⟨x0, x1⟩, Or.inr (Or.inr (Or.inl ⟨rfl, ⟨⟨v0, v1⟩, ⟨u0, u1⟩, (e6h (e7h h)).2⟩, rfl, ⟨z0, z1⟩, ⟨by decide, by decide⟩, rfl⟩))⟩, HM.out⟩
    · have hzb : (e7 == 0) = false := by simp [hz]
      go_wp2_with fail
      refine (bounded_any _ p a n c e7 2 15 (by decide) HM.out.pi).mono ?_
      rintro e w13 ⟨⟨y, rfl, y0, y1⟩, ⟨e8, e8h, e8p⟩, e8e⟩
      replace HM := hide (HM.out.step e8p e8e)
      clear e8p e8e c6
      have hm_ := HM.out
      have d6 := hm_.cs.c6
      have fr := hm_.cs.fr
      clear hm_
      replace HM := hide (HM.out.put6 (cl' := y))
      go_wp2
      go_end0
      exact ⟨rfl, e8, 2, x, 0, u, v, z, y, pm, false, fun h => ⟨e1h (e2h (e3h (e4h (e5h (e6h (e7h (e8h h))).1)))), ⟨x0, x1⟩, Or.inr (Or.inr (Or.inl ⟨rfl, ⟨⟨v0, v1⟩, ⟨u0, u1⟩, (e6h (e7h (e8h h))).2⟩, rfl, ⟨z0, z1⟩, ⟨y0, by omega⟩, rfl⟩))⟩, HM.out⟩
set_option maxRecDepth 100000 in
set_option maxHeartbeats 4000000 in
theorem link_any (w : World) (p q : Nat) (a : Option Addr) (n c : Nat) (er : Int) (hp0 : PI w p a n c er) (hc0 : CS w q 0 0 0 0 0 0 0 false false) (hpq : p < q) :
    Calls Try.prog 56 #[.pointer (some ⟨p, 0, none⟩), .pointer (some ⟨q, 0, none⟩)] w (ChgPost w p q a n c er) := by
  have HM := hide (mc0 hp0 hc0 hpq)
  clear hp0 hc0
  go_enter Try.func56, Try.ntmps56
  have hm_ := HM.out
  have d0 := hm_.cs.c0
  have fr := hm_.cs.fr
  clear hm_
  go_upto_region 1 with fail
  replace HM := hide (HM.out.put0 (kd' := 4))
  clear d0 fr
  generalize w.setCell ⟨q, 0, none⟩ (.int .i64 4) = w1 at *
  go_wp2_with fail
  refine (device_any _ p a n c er HM.out.pi).mono ?_
  rintro e w2 ⟨⟨x, rfl, x0, x1⟩, ⟨e1, e1h, e1p⟩, e1e⟩
  replace HM := hide (HM.out.step e1p e1e)
  clear e1p e1e
  have hm_ := HM.out
  have d1 := hm_.cs.c1
  have fr := hm_.cs.fr
  clear hm_
  go_upto_region 2 with fail
  replace HM := hide (HM.out.put1 (dv' := x))
  clear d1 fr
  generalize w2.setCell ⟨q, 1, none⟩ (.int .i64 x) = w3 at *
  have hm_ := HM.out
  obtain ⟨tp, c6, c3, tp0, tp1⟩ := hm_.open
  have fr := hm_.cs.fr
  clear hm_
  go_upto_region 3 with fail
  clear c6 c3 fr
  go_wp2_with fail
  refine (device_any _ p a n c e1 HM.out.pi).mono ?_
  rintro e w4 ⟨⟨y, rfl, y0, y1⟩, ⟨e2, e2h, e2p⟩, e2e⟩
  replace HM := hide (HM.out.step e2p e2e)
  clear e2p e2e
  have hm_ := HM.out
  have d2 := hm_.cs.c2
  have fr := hm_.cs.fr
  clear hm_
  go_upto_region 4 with fail
  replace HM := hide (HM.out.put2 (hp' := y))
  clear d2 fr
  generalize w4.setCell ⟨q, 2, none⟩ (.int .i64 y) = w5 at *
  have hm_ := HM.out
  obtain ⟨tp2, c6, c3, _, _⟩ := hm_.open
  have d1 := hm_.cs.c1
  have d2 := hm_.cs.c2
  clear hm_ c3
  by_cases hz : e2 = 0
  · subst hz
    by_cases hge : y ≤ x
    · have hgb : decide (y ≤ x) = true := decide_eq_true hge
      go_quiet (fail)
      replace HM := hide (HM.out.drewN nq)
      go_wp2_with fail
      refine (fail_any _ p a n c 0 3 tp (by decide) ⟨tp0, tp1⟩ HM.out.pi).mono ?_
      rintro e w6 ⟨rfl, ⟨e4, he4, e4p⟩, e4e⟩
      replace HM := hide (HM.out.step e4p e4e)
      clear e4p e4e c6 d1 d2
      go_wp2_with fail
      refine (either_any _ p a n c e4 _ _ HM.out.pi).mono ?_
      rintro e w8 ⟨⟨bb, rfl⟩, ⟨e9, e9h, e9p⟩, e9e⟩
      replace HM := hide (HM.out.step e9p e9e)
      clear e9p e9e
      have hm_ := HM.out
      have d8 := hm_.cs.c8
      have fr := hm_.cs.fr
      clear hm_
      replace HM := hide (HM.out.put8 (up' := bb))
      go_wp2
      go_end0
      exact ⟨rfl, e9, 4, x, y, 0, 0, 0, 0, false, bb, fun h => absurd (e9h h) he4, HM.out⟩
    · have hgb : decide (y ≤ x) = false := decide_eq_false hge
      go_quiet (fail)
      replace HM := hide (HM.out.drewN nq)
      clear c6 d1 d2
      go_wp2_with fail
      refine (either_any _ p a n c 0 _ _ HM.out.pi).mono ?_
      rintro e w8 ⟨⟨bb, rfl⟩, ⟨e9, e9h, e9p⟩, e9e⟩
      replace HM := hide (HM.out.step e9p e9e)
      clear e9p e9e
      have hm_ := HM.out
      have d8 := hm_.cs.c8
      have fr := hm_.cs.fr
      clear hm_
      replace HM := hide (HM.out.put8 (up' := bb))
      go_wp2
      go_end0
      exact ⟨rfl, e9, 4, x, y, 0, 0, 0, 0, false, bb, fun h => ⟨e1h (e2h (by first | rfl | trivial)), ⟨x0, x1⟩, Or.inr (Or.inr (Or.inr (Or.inr (Or.inl ⟨rfl, rfl, rfl, ⟨by omega, y1⟩, rfl, rfl, rfl⟩))))⟩, HM.out⟩
  · have hzb : (e2 == 0) = false := by simp [hz]
    go_quiet (fail)
    replace HM := hide (HM.out.drewN nq)
    clear c6 d1 d2
    go_wp2_with fail
    refine (either_any _ p a n c e2 _ _ HM.out.pi).mono ?_
    rintro e w8 ⟨⟨bb, rfl⟩, ⟨e9, e9h, e9p⟩, e9e⟩
    replace HM := hide (HM.out.step e9p e9e)
    clear e9p e9e
    have hm_ := HM.out
    have d8 := hm_.cs.c8
    have fr := hm_.cs.fr
    clear hm_
    replace HM := hide (HM.out.put8 (up' := bb))
    go_wp2
    go_end0
    exact ⟨rfl, e9, 4, x, y, 0, 0, 0, 0, false, bb, fun h => absurd (e9h h) hz, HM.out⟩
end Go.Proofs.Qxb6500778a
