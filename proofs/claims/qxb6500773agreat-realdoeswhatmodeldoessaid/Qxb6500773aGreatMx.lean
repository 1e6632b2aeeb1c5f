import Derived.Test.Qxb6500773aGreatMw
namespace Go.Proofs.Qxb6500773aGreat
open Go.RowKit

def fltV (er ln col : Int) : Value := .agg #[.int .i64 er, .int .i64 ln, .int .i64 col]
theorem frozen_new (w : World) (cs : List Value) (t j : Nat) : (w.alloc (.cells cs.toArray t)).frozen? ⟨w.heap.size, j, none⟩ = false := by simp [go_sem]
set_option linter.unusedSimpArgs false in
set_option maxRecDepth 100000 in
set_option maxHeartbeats 8000000 in
/-- cnfm.at -/
theorem atM_any (w : World) (tv : Value) (ht : ∃ a n c, tv = .slice a n c) (er ln col : Int) :
    Calls Tryz.prog 139 #[.int .i64 er, .agg #[tv, .int .i64 ln, .int .i64 col]] w (ExPost w (fltV er ln col)) := by
  obtain ⟨a, n, c, rfl⟩ := ht
  unfold fltV
  go_enter Tryz.func139, Tryz.ntmps139
  go_wp2
  exact bodyPost_ret (v := .agg #[.int .i64 er, .int .i64 ln, .int .i64 col]) (by simp [results, Tryz.results139, go_sem]) rfl ⟨rfl, ((Ex.refl _ w).alloc _).alloc _⟩
/-- the column behind the end of line ln -/
def eolM (X : List Int) (ln : Nat) : Int := (((lnP X).getD ln []).length : Int) + 1
set_option linter.unusedSimpArgs false in
set_option maxRecDepth 100000 in
set_option maxHeartbeats 8000000 in
/-- cnfm.atLineEnd -/
theorem atLineEndM_any (w : World) (a : Option Addr) (c : Nat) (X : List Int) (er : Int) (k : Nat) (h : UL w a X) (hl : X.length ≤ 1000000000) (hk : k < (lnP X).length) :
    Calls Tryz.prog 140 #[.int .i64 er, .slice a X.length c, .int .i64 ((k : Int) + 1)] w (ExPost w (fltV er ((k : Int) + 1) (eolM X k))) := by
  unfold fltV
  have hk2 : k ≤ 1000000000 := by have := (lnP_tot X).2; omega
  have E0 : Ex (fun _ => False) w (w.alloc (.cells #[.int .i64 0, .int .i64 0, .int .i64 0] 41)) := Ex.of (be1 w _)
  have c156 := hide (linesM_any (w.alloc (.cells #[.int .i64 0, .int .i64 0, .int .i64 0] 41)) a c X (h.keep E0) hl)
  obtain ⟨Y, hY⟩ : ∃ Y, (lnP X)[k]? = some Y := ⟨_, List.getElem?_eq_getElem hk⟩
  have HE : Hid (eolM X k = (Y.length : Int) + 1) := by show _ = _; unfold eolM; rw [List.getD_eq_getElem?_getD, hY]; rfl
  have hYl : Y.length ≤ 1000000000 := Nat.le_trans (totL_mem (List.mem_of_getElem? hY)) (Nat.le_trans (lnP_tot X).1 hl)
  rw [HE.out]
  obtain ⟨y, hy⟩ : ∃ y, Y.length = y := ⟨_, rfl⟩
  have HY := hide hy
  rw [hy] at hYl ⊢
  clear hy HE
  clear h hk
  generalize lnP X = Ls at *
  have hw1 : wrap64 ((k : Int) + 1 - 1) = (k : Int) := by unfold wrap64; omega
  have hw2 : wrap64 ((y : Int) + 1) = (y : Int) + 1 := by unfold wrap64; omega
  have t0 : (w.alloc (.cells #[.int .i64 0, .int .i64 0, .int .i64 0] 41)).cell? ⟨w.heap.size, 0, none⟩ = some (.int .i64 0) := new_cells w [.int .i64 0, .int .i64 0, .int .i64 0] 41 0 _ rfl
  have t1 : (w.alloc (.cells #[.int .i64 0, .int .i64 0, .int .i64 0] 41)).cell? ⟨w.heap.size, 1, none⟩ = some (.int .i64 0) := new_cells w [.int .i64 0, .int .i64 0, .int .i64 0] 41 1 _ rfl
  have t2 : (w.alloc (.cells #[.int .i64 0, .int .i64 0, .int .i64 0] 41)).cell? ⟨w.heap.size, 2, none⟩ = some (.int .i64 0) := new_cells w [.int .i64 0, .int .i64 0, .int .i64 0] 41 2 _ rfl
  have tf : ∀ j, (w.alloc (.cells #[.int .i64 0, .int .i64 0, .int .i64 0] 41)).frozen? ⟨w.heap.size, j, none⟩ = false := fun j => frozen_new w [.int .i64 0, .int .i64 0, .int .i64 0] 41 j
  have hsz : w.heap.size < (w.alloc (.cells #[.int .i64 0, .int .i64 0, .int .i64 0] 41)).heap.size := by rw [szAl]; omega
  have HT := hide (And.intro t0 (And.intro t1 (And.intro t2 (And.intro tf (And.intro hsz E0)))))
  clear t0 t1 t2 tf hsz E0
  go_enter Tryz.func140, Tryz.ntmps140
  go_wp2_with fail
  refine c156.out.mono ?_
  rintro e w2 ⟨vl, nl, rfl, hlp, hex⟩
  clear c156
  obtain ⟨gl, cv, a1, c1, ev, hkn, hcl, -, -, -, -⟩ := hlp.at (s := 1) (fun _ _ => rfl) hY
  subst ev
  have x0 := hcl 0 (by decide) _ rfl
  rw [Nat.mul_one, Nat.add_zero] at x0
  unfold t1 at x0
  rw [HY.out] at x0
  clear hcl
  obtain ⟨t0, t1, t2, tf, hsz, E0⟩ := HT.out
  replace t0 := hex.cell (fun z => z) t0
  replace t1 := hex.cell (fun z => z) t1
  replace t2 := hex.cell (fun z => z) t2
  have tg : ∀ j, w2.frozen? ⟨w.heap.size, j, none⟩ = false := fun j => (hex.frozen (fun z => z) hsz).trans (tf j)
  have HEX : Hid (Ex (fun _ => False) w w2) := E0.trans hex
  clear hlp hex HT E0 hsz tf hY
  have hkn2 : (k : Int) < (nl : Int) := by omega
  generalize hb : w.heap.size = B0 at *
  have HLE : Hid (w.heap.size ≤ B0) := Nat.le_of_eq hb
  clear hb
  go_wp2
  exact bodyPost_ret (v := .agg #[.int .i64 er, .int .i64 ((k : Int) + 1), .int .i64 ((y : Int) + 1)]) (by simp [results, Tryz.results140, go_sem, t0, t1, t2]) rfl ⟨rfl, ((HEX.out.setNew HLE.out _).setNew HLE.out _).setNew HLE.out _⟩
set_option linter.unusedSimpArgs false in
set_option maxRecDepth 100000 in
set_option maxHeartbeats 8000000 in
/-- cnfm.atEnd -/
theorem atEndM_any (w : World) (a : Option Addr) (c : Nat) (X : List Int) (er : Int) (k : Nat) (h : UL w a X) (hl : X.length ≤ 1000000000) (hk : (lnP X).length = k + 1) :
    Calls Tryz.prog 137 #[.int .i64 er, .slice a X.length c] w (ExPost w (fltV er ((k : Int) + 1) (eolM X k))) := by
  have E0 : Ex (fun _ => False) w (w.alloc (.cells #[.int .i64 0, .int .i64 0, .int .i64 0] 41)) := Ex.of (be1 w _)
  have c156 := hide (linesM_any (w.alloc (.cells #[.int .i64 0, .int .i64 0, .int .i64 0] 41)) a c X (h.keep E0) hl)
  have C140 : Hid (∀ w', Ex (fun _ => False) (w.alloc (.cells #[.int .i64 0, .int .i64 0, .int .i64 0] 41)) w' → Calls Tryz.prog 140 #[.int .i64 er, .slice a X.length c, .int .i64 ((k : Int) + 1)] w' (ExPost w' (fltV er ((k : Int) + 1) (eolM X k)))) := fun w' e => atLineEndM_any w' a c X er k ((h.keep E0).keep e) hl (by omega)
  have HK := hide hk
  clear h hk
  generalize eolM X k = ec at *
  generalize lnP X = Ls at *
  have t0 : (w.alloc (.cells #[.int .i64 0, .int .i64 0, .int .i64 0] 41)).cell? ⟨w.heap.size, 0, none⟩ = some (.int .i64 0) := new_cells w [.int .i64 0, .int .i64 0, .int .i64 0] 41 0 _ rfl
  have t1 : (w.alloc (.cells #[.int .i64 0, .int .i64 0, .int .i64 0] 41)).cell? ⟨w.heap.size, 1, none⟩ = some (.int .i64 0) := new_cells w [.int .i64 0, .int .i64 0, .int .i64 0] 41 1 _ rfl
  have t2 : (w.alloc (.cells #[.int .i64 0, .int .i64 0, .int .i64 0] 41)).cell? ⟨w.heap.size, 2, none⟩ = some (.int .i64 0) := new_cells w [.int .i64 0, .int .i64 0, .int .i64 0] 41 2 _ rfl
  have tf : ∀ j, (w.alloc (.cells #[.int .i64 0, .int .i64 0, .int .i64 0] 41)).frozen? ⟨w.heap.size, j, none⟩ = false := fun j => frozen_new w [.int .i64 0, .int .i64 0, .int .i64 0] 41 j
  have hsz : w.heap.size < (w.alloc (.cells #[.int .i64 0, .int .i64 0, .int .i64 0] 41)).heap.size := by rw [szAl]; omega
  have HT := hide (And.intro t0 (And.intro t1 (And.intro t2 (And.intro tf (And.intro hsz E0)))))
  clear t0 t1 t2 tf hsz E0
  go_enter Tryz.func137, Tryz.ntmps137
  go_wp2_with fail
  refine c156.out.mono ?_
  rintro e w2 ⟨vl, nl, rfl, hlp, hex⟩
  clear c156
  have hnl : nl = k + 1 := by have := hlp.hn; have := HK.out; omega
  obtain ⟨al, cl, hvl⟩ : ∃ al cl, vl = .slice al nl cl := by obtain ⟨V, h1, _⟩ := hlp.ro; exact own_form h1
  subst hvl hnl
  have c140 := hide (C140.out w2 hex)
  clear C140 hlp
  go_wp2_with fail
  refine c140.out.mono ?_
  rintro e w3 ⟨rfl, hx3⟩
  clear c140
  unfold fltV
  obtain ⟨t0, t1, t2, tf, hsz, E0⟩ := HT.out
  have hex3 := hex.trans hx3
  replace t0 := hex3.cell (fun z => z) t0
  replace t1 := hex3.cell (fun z => z) t1
  replace t2 := hex3.cell (fun z => z) t2
  have tg : ∀ j, w3.frozen? ⟨w.heap.size, j, none⟩ = false := fun j => (hex3.frozen (fun z => z) hsz).trans (tf j)
  have HEX : Hid (Ex (fun _ => False) w w3) := E0.trans hex3
  clear hex hex3 hx3 HT E0 hsz tf HK
  generalize hb : w.heap.size = B0 at *
  have HLE : Hid (w.heap.size ≤ B0) := Nat.le_of_eq hb
  clear hb
  go_wp2
  exact bodyPost_ret (v := .agg #[.int .i64 er, .int .i64 ((k : Int) + 1), .int .i64 ec]) (by simp [results, Tryz.results137, go_sem, t0, t1, t2]) rfl ⟨rfl, ((HEX.out.setNew HLE.out _).setNew HLE.out _).setNew HLE.out _⟩
set_option linter.unusedSimpArgs false in
set_option maxRecDepth 100000 in
set_option maxHeartbeats 8000000 in
/-- cnfm.is -/
theorem is1M_any (w : World) (a : Option Addr) (c : Nat) (X : List Int) (ln col : Int) (x0 : Int) (h : UL w a X) (hl : X.length ≤ 1000000000) :
    Calls Tryz.prog 138 #[.agg #[.slice a X.length c, .int .i64 ln, .int .i64 col], .int .u8 x0, .int .u8 0, .int .u8 0] w (ExPost w (.bool (X == [x0]))) := by
  have E0 : Hid (Ex (fun _ => False) w (w.alloc (.cells #[.slice a X.length c, .int .i64 ln, .int .i64 col] 181))) := Ex.of (be1 w _)
  have f0 : (w.alloc (.cells #[.slice a X.length c, .int .i64 ln, .int .i64 col] 181)).cell? ⟨w.heap.size, 0, none⟩ = some (.slice a X.length c) := new_cells w [.slice a X.length c, .int .i64 ln, .int .i64 col] 181 0 _ rfl
  have HX := hide (h.keep E0.out)
  clear h
  obtain ⟨w1, hw1⟩ : ∃ z, w.alloc (.cells #[.slice a X.length c, .int .i64 ln, .int .i64 col] 181) = z := ⟨_, rfl⟩
  rw [hw1] at E0 f0 HX
  have HW := hide hw1
  clear hw1
  by_cases hlen : X.length = 1
  · obtain ⟨x, hXe⟩ : ∃ x, X = [x] := by
      match X, hlen with
      | [x], _ => exact ⟨_, rfl⟩
    subst hXe
    obtain ⟨g0, o0, ea0, z0⟩ := HX.out 0 x rfl
    subst ea0
    rw [Nat.add_zero] at z0
    clear hlen HX
    simp only [List.length_cons, List.length_nil, Nat.zero_add, Nat.reduceAdd] at f0 HW hl ⊢
    by_cases hx : x = x0
    · have HF : Hid (([x] == [x0]) = true) := by show _ = true; simp [hx]
      have hxb : (x == x0) = true := by simp [hx]
      clear hx
      go_enter Tryz.func138, Tryz.ntmps138
      go_upto_region 1 with fail
      rw [HW.out]
      clear HW
      generalize w.heap.size = B0 at *
      go_wp2
      exact bodyPost_ret (v := .bool true) (by simp [results, Tryz.results138, go_sem]) rfl ⟨by rw [HF.out], E0.out⟩
    · have HF : Hid (([x] == [x0]) = false) := by show _ = false; simp [hx]
      have hxb : (x == x0) = false := by simp [hx]
      go_enter Tryz.func138, Tryz.ntmps138
      go_upto_region 1 with fail
      rw [HW.out]
      clear HW
      generalize w.heap.size = B0 at *
      go_wp2
      exact bodyPost_ret (v := .bool false) (by simp [results, Tryz.results138, go_sem]) rfl ⟨by rw [HF.out], E0.out⟩
  · obtain ⟨m, hm⟩ : ∃ m, X.length = m := ⟨_, rfl⟩
    have HF : Hid ((X == [x0]) = false) := by show _ = false; rw [beq_eq_false_iff_ne]; intro z; rw [z] at hlen; exact hlen rfl
    rw [HF.out, hm]
    rw [hm] at f0 HW hl hlen
    clear hm HF HX
    have hmb : ((m : Int) == 1) = false := by simp; omega
    have hmi : ¬ (m : Int) = 1 := by omega
    clear hlen
    go_enter Tryz.func138, Tryz.ntmps138
    go_upto_region 1 with fail
    rw [HW.out]
    clear HW
    generalize w.heap.size = B0 at *
    go_wp2
    exact bodyPost_ret (v := .bool false) (by simp [results, Tryz.results138, go_sem]) rfl ⟨rfl, E0.out⟩
set_option linter.unusedSimpArgs false in
set_option maxRecDepth 100000 in
set_option maxHeartbeats 8000000 in
/-- cnfm.is -/
theorem is3M_any (w : World) (a : Option Addr) (c : Nat) (X : List Int) (ln col : Int) (h : UL w a X) (hl : X.length ≤ 1000000000) :
    Calls Tryz.prog 138 #[.agg #[.slice a X.length c, .int .i64 ln, .int .i64 col], .int .u8 99, .int .u8 110, .int .u8 102] w (ExPost w (.bool (X == [99, 110, 102]))) := by
  have E0 : Hid (Ex (fun _ => False) w (w.alloc (.cells #[.slice a X.length c, .int .i64 ln, .int .i64 col] 181))) := Ex.of (be1 w _)
  have f0 : (w.alloc (.cells #[.slice a X.length c, .int .i64 ln, .int .i64 col] 181)).cell? ⟨w.heap.size, 0, none⟩ = some (.slice a X.length c) := new_cells w [.slice a X.length c, .int .i64 ln, .int .i64 col] 181 0 _ rfl
  have HX := hide (h.keep E0.out)
  clear h
  obtain ⟨w1, hw1⟩ : ∃ z, w.alloc (.cells #[.slice a X.length c, .int .i64 ln, .int .i64 col] 181) = z := ⟨_, rfl⟩
  rw [hw1] at E0 f0 HX
  have HW := hide hw1
  clear hw1
  by_cases hlen : X.length = 3
  · obtain ⟨x, y, z, hXe⟩ : ∃ x y z, X = [x, y, z] := by
      match X, hlen with
      | [x, y, z], _ => exact ⟨_, _, _, rfl⟩
    subst hXe
    obtain ⟨g0, o0, ea0, z0⟩ := HX.out 0 x rfl
    obtain ⟨g1, o1, ea1, z1⟩ := HX.out 1 y rfl
    obtain ⟨g2, o2, ea2, z2⟩ := HX.out 2 z rfl
    subst ea0
    cases ea1
    cases ea2
    rw [Nat.add_zero] at z0
    clear hlen HX
    simp only [List.length_cons, List.length_nil, Nat.zero_add, Nat.reduceAdd] at f0 HW hl ⊢
    by_cases hc0 : x = 99
    · have HA0 := hide hc0
      have hb0 : (x == 99) = true := by simp [hc0]
      clear hc0
      by_cases hc1 : y = 110
      · have HA1 := hide hc1
        have hb1 : (y == 110) = true := by simp [hc1]
        clear hc1
        by_cases hc2 : z = 102
        · have HA2 := hide hc2
          have hb2 : (z == 102) = true := by simp [hc2]
          clear hc2
          have HF : Hid (([x, y, z] == [99, 110, 102]) = true) := by show _ = true; simp [HA0.out, HA1.out, HA2.out]
          go_enter Tryz.func138, Tryz.ntmps138
          go_upto_region 1 with fail
          rw [HW.out]
          clear HW
          generalize w.heap.size = B0 at *
          go_wp2
          exact bodyPost_ret (v := .bool true) (by simp [results, Tryz.results138, go_sem]) rfl ⟨by rw [HF.out], E0.out⟩
        · have HF : Hid (([x, y, z] == [99, 110, 102]) = false) := by show _ = false; simp [hc2]
          have hb2 : (z == 102) = false := by simp [hc2]
          go_enter Tryz.func138, Tryz.ntmps138
          go_upto_region 1 with fail
          rw [HW.out]
          clear HW
          generalize w.heap.size = B0 at *
          go_wp2
          exact bodyPost_ret (v := .bool false) (by simp [results, Tryz.results138, go_sem]) rfl ⟨by rw [HF.out], E0.out⟩
      · have HF : Hid (([x, y, z] == [99, 110, 102]) = false) := by show _ = false; simp [hc1]
        have hb1 : (y == 110) = false := by simp [hc1]
        go_enter Tryz.func138, Tryz.ntmps138
        go_upto_region 1 with fail
        rw [HW.out]
        clear HW
        generalize w.heap.size = B0 at *
        go_wp2
        exact bodyPost_ret (v := .bool false) (by simp [results, Tryz.results138, go_sem]) rfl ⟨by rw [HF.out], E0.out⟩
    · have HF : Hid (([x, y, z] == [99, 110, 102]) = false) := by show _ = false; simp [hc0]
      have hb0 : (x == 99) = false := by simp [hc0]
      go_enter Tryz.func138, Tryz.ntmps138
      go_upto_region 1 with fail
      rw [HW.out]
      clear HW
      generalize w.heap.size = B0 at *
      go_wp2
      exact bodyPost_ret (v := .bool false) (by simp [results, Tryz.results138, go_sem]) rfl ⟨by rw [HF.out], E0.out⟩
  · obtain ⟨m, hm⟩ : ∃ m, X.length = m := ⟨_, rfl⟩
    have HF : Hid ((X == [99, 110, 102]) = false) := by show _ = false; rw [beq_eq_false_iff_ne]; intro z; rw [z] at hlen; exact hlen rfl
    rw [HF.out, hm]
    rw [hm] at f0 HW hl hlen
    clear hm HF HX
    have hmb : ((m : Int) == 3) = false := by simp; omega
    have hmi : ¬ (m : Int) = 3 := by omega
    clear hlen
    go_enter Tryz.func138, Tryz.ntmps138
    go_upto_region 1 with fail
    rw [HW.out]
    clear HW
    generalize w.heap.size = B0 at *
    go_wp2
    exact bodyPost_ret (v := .bool false) (by simp [results, Tryz.results138, go_sem]) rfl ⟨rfl, E0.out⟩
end Go.Proofs.Qxb6500773aGreat
