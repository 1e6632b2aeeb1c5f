import Derived.Test.Qxb6500778aV1
namespace Go.Proofs.Qxb6500778a
open Go.RowKit

theorem wd_str {L : List Wd} (hb : ∀ x ∈ L, Byt x.t ∧ x.t.length ≤ 65536) {i : Nat} {x : Wd} (h : L[i]? = some x) : strL (strOfNums x.t) = x.t ∧ x.t.length ≤ 1000000 := by
  have hm := hb x (List.mem_of_getElem? h)
  exact ⟨strL_of hm.1, by omega⟩
theorem cs_cell {w : World} {q : Nat} {c : Chg} (h : CS w q c) (j : Nat) (v : Value) (hv : (Chg.vals c)[j]? = some v) : w.cell? ⟨q, j, none⟩ = some v := by
  have hj : j < 9 := (List.getElem?_eq_some_iff.1 hv).1
  rcases (by omega : j = 0 ∨ j = 1 ∨ j = 2 ∨ j = 3 ∨ j = 4 ∨ j = 5 ∨ j = 6 ∨ j = 7 ∨ j = 8) with e | e | e | e | e | e | e | e | e <;> subst e <;> injection hv with hv <;> subst hv
  · exact h.c0
  · exact h.c1
  · exact h.c2
  · exact h.c3
  · exact h.c4
  · exact h.c5
  · exact h.c6
  · exact h.c7
  · exact h.c8
theorem Try.fld109 (w : World) (a b : Int) : (Instr.field 109 (.agg #[.int .i64 a, .int .i64 b]) 0).run Try.prog w = .ok (.int .i64 a) w := by
  unfold Instr.field
  simp [go_sem, part, asAgg]
set_option linter.unusedSimpArgs false in
set_option maxRecDepth 100000 in
set_option maxHeartbeats 32000000 in
/-- configm.Parse -/
theorem parseM_any (w : World) (a : Option Addr) (cp : Nat) (s : List Int) (hl : s.length ≤ 65536) (hcp : s.length ≤ cp) (hsrc : SrcAt w a s) (hb : Byt s) :
    Calls Try.prog 24 #[.slice a s.length cp] w (PMPost w (parseP s)) := by
  rw [← parse_eq hb]
  have HWD := hide (words_any (w.alloc (.cells #[.int .i64 0, .slice none 0 0] 52)) a cp s hl hcp (fun k c hc => by
    obtain ⟨g, off, e1, e2⟩ := hsrc k c hc
    exact ⟨g, off, e1, ((Ex.refl (fun _ => False) w).alloc _).cell (fun e => e) e2⟩))
  have HWE := hide (wdsP_end s)
  have HBY := hide (wdsP_byt hb hl)
  obtain ⟨hln, hl0⟩ := wdsP_len s
  generalize wdsP s = L at *
  obtain ⟨n, hn⟩ : ∃ n, L.length = n := ⟨_, rfl⟩
  rw [hn] at HWD hln hl0
  have HNL := hide hn
  have hsm : n ≤ 1000000 := by omega
  obtain ⟨PR, hPR⟩ : ∃ q, parseW L = q := ⟨_, rfl⟩
  have HPR := hide (hPR.symm)
  unfold parseW at HPR
  rw [hPR]
  have nc := fun j u h => new_cells w [.int .i64 0, .slice none 0 0] 52 j u h
  have d0 := nc 0 _ rfl
  have d1 := nc 1 _ rfl
  simp only [Addr.add_mid, Nat.zero_add] at d0 d1
  have df : ∀ j, (w.alloc (.cells #[.int .i64 0, .slice none 0 0] 52)).frozen? ⟨w.heap.size, j, none⟩ = false := fun j => by simp [go_sem]
  have HE : Hid (Ex (fun _ => False) w (w.alloc (.cells #[.int .i64 0, .slice none 0 0] 52))) := (Ex.refl _ w).alloc _
  have hS0 : w.heap.size < (w.alloc (.cells #[.int .i64 0, .slice none 0 0] 52)).heap.size := by simp [go_sem]
  clear nc hsrc hb hPR hn hln hcp hl
  generalize s.length = sl at *
  go_enter Try.func24, Try.ntmps24
  go_upto_region 1 with fail
  generalize w.alloc (.cells #[.int .i64 0, .slice none 0 0] 52) = W0 at *
  obtain ⟨r0, hr0⟩ : ∃ r, w.heap.size = r := ⟨_, rfl⟩
  have hr0n : w.heap.size ≤ r0 := by omega
  rw [hr0] at d0 d1 df hS0 ⊢
  clear hr0
  go_wp2_with fail
  refine HWD.out.mono ?_
  rintro e W1 ⟨v, rfl, hex1, hown1⟩
  obtain ⟨g, vc, rfl⟩ := own_some hown1 hl0
  have hgr := (hown1.lt g rfl).1
  have hgr0 : ¬ g = r0 := by omega
  replace d0 := hex1.cell (fun e => e) d0
  replace d1 := hex1.cell (fun e => e) d1
  replace df := hex1.frw (fun e => e) hS0 df
  have hS1 : W0.heap.size ≤ W1.heap.size := hex1.size
  have HE1 := hide (HE.out.trans hex1)
  have HOB := hide hown1
  clear hex1 hown1 HWD HE
  have b0 := new_cells W1 [.int .i64 0, .slice none 0 0] 52 0 _ rfl
  have b1 := new_cells W1 [.int .i64 0, .slice none 0 0] 52 1 _ rfl
  simp only [Addr.add_mid, Nat.zero_add] at b0 b1
  have bf : ∀ j, (W1.alloc (.cells #[.int .i64 0, .slice none 0 0] 52)).frozen? ⟨W1.heap.size, j, none⟩ = false := fun j => by simp [go_sem]
  have EA : Ex (fun _ => False) W1 (W1.alloc (.cells #[.int .i64 0, .slice none 0 0] 52)) := (Ex.refl _ W1).alloc _
  replace d0 := EA.cell (fun e => e) d0
  replace d1 := EA.cell (fun e => e) d1
  replace df := EA.frw (fun e => e) (by omega) df
  have HE := hide (HE1.out.trans EA)
  have HOW : Hid ((W1.alloc (.cells #[.int .i64 0, .slice none 0 0] 52)).ownsRow 0 107 2 (.slice (some ⟨g, 0, none⟩) L.length vc) L.length (flatW L)) := by
    show World.ownsRow _ _ _ _ _ _ _
    rw [HNL.out]
    exact own_low (own_kept HOB.out EA (fun _ _ e => e)) (Nat.zero_le _)
  have hgW1 : g < W1.heap.size := (HOB.out.lt g rfl).2
  have hSW : W1.heap.size < (W1.alloc (.cells #[.int .i64 0, .slice none 0 0] 52)).heap.size := by simp [go_sem]
  clear EA HE1 HOB
  go_upto_region 3 with fail
  generalize W1.alloc (.cells #[.int .i64 0, .slice none 0 0] 52) = W at *
  obtain ⟨p, hp⟩ : ∃ p, W1.heap.size = p := ⟨_, rfl⟩
  rw [hp] at b0 b1 bf hS1 hgW1 hSW ⊢
  have hr0W : r0 < W.heap.size := by omega
  have hgp : ¬ g = p := by omega
  have hr0p : ¬ r0 = p := by omega
  have hpn : w.heap.size ≤ p := by omega
  have HSP : Hid (p < W.heap.size) := hSW
  clear hp hgr hS0 hSW
  obtain ⟨x, hx⟩ : ∃ x, L[0]? = some x := ⟨_, List.getElem?_eq_getElem (by rw [HNL.out]; exact hl0)⟩
  obtain ⟨x0, x1⟩ := wd_cells HOW.out rfl hx
  obtain ⟨hts, htl⟩ := wd_str HBY.out hx
  rw [Nat.zero_mul] at x0 x1
  rw [Nat.zero_add] at x1
  have hii0 : (0 : Int) < (n : Int) := by omega
  rw [wdAt_eq hx] at HPR
  obtain ⟨T, hT⟩ : ∃ T, strOfNums x.t = T := ⟨_, rfl⟩
  obtain ⟨tq, htq⟩ : ∃ q, x.q = q := ⟨_, rfl⟩
  rw [hT] at x0 hts
  rw [htq] at x1 HPR
  by_cases k0 : x.t = strL s_batch
  · rw [if_pos k0] at HPR
    have h2n : 2 ≤ n := by
      have := HWE.out 0 x hx (by rw [k0]; decide)
      rw [HNL.out] at this
      omega
    have hcmp : (T.toList == [98, 97, 116, 99, 104]) = true := (str_eq _ _).trans (by rw [hts, k0]; decide)
    clear hT htq hts htl k0 hx
    go_upto_region 5 with fail
    clear hcmp x0 x1
    obtain ⟨x, hx⟩ : ∃ x, L[1]? = some x := ⟨_, List.getElem?_eq_getElem (by rw [HNL.out]; exact h2n)⟩
    obtain ⟨x0, x1⟩ := wd_cells HOW.out rfl hx
    obtain ⟨hts, htl⟩ := wd_str HBY.out hx
    rw [show 1 * 2 = 2 from rfl] at x0 x1
    rw [show 2 + 1 = 3 from rfl] at x1
    have hii1 : (1 : Int) < (n : Int) := by omega
    rw [wdAt_eq hx] at HPR
    have HNE : Hid (uE false x.t 999999 = 0 → 3 ≤ n) := fun h => by
      have := HWE.out 1 x hx (uE_ne h)
      rw [HNL.out] at this
      omega
    have HUT := hide (fun V => upTo_0 V (strOfNums x.t) x.t x.q 999999 hts htl)
    obtain ⟨T, hT⟩ : ∃ T, strOfNums x.t = T := ⟨_, rfl⟩
    obtain ⟨tq, htq⟩ : ∃ q, x.q = q := ⟨_, rfl⟩
    obtain ⟨ue, hue⟩ : ∃ e, uE false x.t 999999 = e := ⟨_, rfl⟩
    obtain ⟨idv, hid⟩ : ∃ e, uV false x.t 999999 = e := ⟨_, rfl⟩
    rw [hT] at x0 HUT
    rw [htq] at x1 HPR HUT
    rw [hue] at HPR HUT HNE
    rw [hid] at HPR HUT
    clear hT htq hue hid hts htl hx
    obtain ⟨ta, hta⟩ : ∃ a, (if ue = 0 then 0 else tq) = a := ⟨_, rfl⟩
    unfold fltV at HUT
    rw [hta] at HUT
    go_wp2_with fail
    refine (HUT.out _).mono ?_
    rintro e W3 ⟨rfl, hex3⟩
    have f0 := new_cells W3 [.int .i64 ue, .int .i64 ta] 109 0 _ rfl
    have f1 := new_cells W3 [.int .i64 ue, .int .i64 ta] 109 1 _ rfl
    simp only [Addr.add_mid, Nat.zero_add] at f0 f1
    have EA : Ex (fun _ => False) W (W3.alloc (.cells #[.int .i64 ue, .int .i64 ta] 109)) := hex3.alloc _
    replace d0 := EA.cell (fun e => e) d0
    replace d1 := EA.cell (fun e => e) d1
    replace df := EA.frw (fun e => e) hr0W df
    replace b0 := EA.cell (fun e => e) b0
    replace b1 := EA.cell (fun e => e) b1
    replace bf := EA.frw (fun e => e) HSP.out bf
    have HE5 := hide (HE.out.trans EA)
    have HOW5 := hide (own_kept HOW.out EA (fun _ _ e => e))
    have hSW5 : W.heap.size ≤ W3.heap.size := hex3.size
    have hSE := EA.size
    clear hex3 HUT HE HOW x0 x1 EA
    go_upto_region 6 with fail
    generalize W3.alloc (.cells #[.int .i64 ue, .int .i64 ta] 109) = W5 at *
    obtain ⟨r8, hr8⟩ : ∃ r, W3.heap.size = r := ⟨_, rfl⟩
    rw [hr8] at f0 f1 hSW5 ⊢
    have HSP5 : Hid (p < W5.heap.size) := by have := HSP.out; show _ < _; omega
    have hr0W5 : r0 < W5.heap.size := by omega
    have hr80 : ¬ r8 = r0 := by omega
    have hr8p : ¬ r8 = p := by have := HSP.out; omega
    clear hr8 hSE
    by_cases hz : ue = 0
    · rw [if_pos hz] at HPR hta
      have h3n := HNE.out hz
      subst hz
      go_upto_region 8 with fail
      clear f0 f1 hta HNE
      have EB : Ex (fun k => k = p) W5 (W5.setCell ⟨p, 0, none⟩ (.int .i64 idv)) := (Ex.refl (fun k => k = p) W5).set (p := p) rfl _
      have HE6 : Hid (Ex (fun _ => False) w (W5.setCell ⟨p, 0, none⟩ (.int .i64 idv))) := HE5.out.setNew hpn _
      have g0 : (W5.setCell ⟨p, 0, none⟩ (.int .i64 idv)).cell? ⟨p, 0, none⟩ = some (.int .i64 idv) := World.cell?_setCell_same _ _ _ b0
      have g1 : (W5.setCell ⟨p, 0, none⟩ (.int .i64 idv)).cell? ⟨p, 1, none⟩ = some (.slice none 0 0) := by rw [set_at _ _ _ _ _ _ b0, if_neg (by omega)]; exact b1
      have gf : ∀ j, (W5.setCell ⟨p, 0, none⟩ (.int .i64 idv)).frozen? ⟨p, j, none⟩ = false := fun j => by rw [set_frozen]; exact bf j
      have hSz : (W5.setCell ⟨p, 0, none⟩ (.int .i64 idv)).heap.size = W5.heap.size := by simp [go_sem]
      have e0 := EB.cell hr0p d0
      have e1 := EB.cell hr0p d1
      have ef := EB.frw hr0p hr0W5 df
      have HOW6 := hide (own_kept HOW5.out EB (fun k hk (z : k = p) => hgp (by injection hk with hk; have : g = k := hk; omega)))
      go_upto_region 9 with fail
      clear EB HE5 HOW5 d0 d1 df b0 b1 bf
      generalize W5.setCell ⟨p, 0, none⟩ (.int .i64 idv) = W6 at *
      rw [← hSz] at HSP5 hr0W5
      clear hSz
      obtain ⟨x, hx⟩ : ∃ x, L[2]? = some x := ⟨_, List.getElem?_eq_getElem (by rw [HNL.out]; exact h3n)⟩
      obtain ⟨x0, x1⟩ := wd_cells HOW6.out rfl hx
      obtain ⟨hts, htl⟩ := wd_str HBY.out hx
      rw [show 2 * 2 = 4 from rfl] at x0 x1
      rw [show 4 + 1 = 5 from rfl] at x1
      have hii2 : (2 : Int) < (n : Int) := by omega
      rw [wdAt_eq hx] at HPR
      obtain ⟨T, hT⟩ : ∃ T, strOfNums x.t = T := ⟨_, rfl⟩
      obtain ⟨tq, htq⟩ : ∃ q, x.q = q := ⟨_, rfl⟩
      rw [hT] at x0 hts
      rw [htq] at x1 HPR
      by_cases k0 : x.t = [123]
      · rw [if_pos k0] at HPR
        have h4n : 4 ≤ n := by
          have := HWE.out 2 x hx (by rw [k0]; decide)
          rw [HNL.out] at this
          omega
        have hcmp : (T.toList == [123]) = true := (str_eq _ _).trans (by rw [hts, k0]; decide)
        clear hT htq hts htl k0 hx
        go_upto_region 11 with fail
        clear hcmp x0 x1
        obtain ⟨i1, hi, hz0, hz1, hz2⟩ := info_parts Try.inf45
        have HI := hide (And.intro hi (And.intro hz0 (And.intro hz1 hz2)))
        clear hi hz0 hz1 hz2
        obtain ⟨B, hB⟩ : ∃ B, W6.heap.size = B := ⟨_, rfl⟩
        have HB := hide hB
        rw [hB] at HSP5 hr0W5
        have hpB := HSP5.out
        have hgB : g < B := by omega
        have hwB : w.heap.size ≤ B := by omega
        clear hB
        have HG0 := hide g0
        have HE0 := hide e0
        have HE1 := hide e1
        have HEF0 := hide ef
        clear g0 e0 e1 ef
        obtain ⟨PL, hPL⟩ : ∃ q, pLoop L 129 3 [] = q := ⟨_, rfl⟩
        rw [hPL] at HPR
        have HPL0 := hide hPL.symm
        clear hPL
        go_wp2_with fail
        go_loopw [9] (fun s9 wr => ∃ (i : Nat) (C : List Chg) (va : Option Addr) (vc2 : Nat), s9 = .int .i64 i ∧ i < n ∧ C.length ≤ 128 ∧ Hid (wr.cell? ⟨p, 1, none⟩ = some (.slice va C.length vc2)) ∧ Hid (wr.cell? ⟨p, 0, none⟩ = some (.int .i64 idv)) ∧ Hid (∀ j, wr.frozen? ⟨p, j, none⟩ = false) ∧ Hid (wr.ownsRow B 45 9 (.slice va C.length vc2) C.length (flatC C)) ∧ Hid (Ex (fun k => k = p) W6 wr) ∧ Hid (PL = pLoop L (129 - C.length) i C)) (fun _ wr => 129 - sliLen (wr.cell? ⟨p, 1, none⟩))
        case atStart => exact ⟨3, [], none, 0, rfl, h4n, by simp, g1, HG0, gf, World.ownsRow_nil _ _ _ _, Ex.refl _ _, HPL0⟩
        case round =>
          clear HPL0
          clear g1 gf HG0
          obtain ⟨i, C, va, vc2, rfl, hin, hC, HP1, HP0, HPF, HO, HX, HPL⟩ := hrel
          have HOWr := hide (own_kept HOW6.out HX.out (fun k hk (z : k = p) => hgp (by injection hk with hk; have : g = k := hk; omega)))
          have HEr : Hid (Ex (fun _ => False) w wr) := HE6.out.trans2 HX.out (fun k hk => .inr (by have hk : k = p := hk; omega))
          have d0 := HX.out.cell hr0p HE0.out
          have d1 := HX.out.cell hr0p HE1.out
          have df := HX.out.frw hr0p (by rw [HB.out]; exact hr0W5) HEF0.out
          have hSr : B ≤ wr.heap.size := by have := HX.out.size; rw [HB.out] at this; exact this
          obtain ⟨x, hx⟩ : ∃ x, L[i]? = some x := ⟨_, List.getElem?_eq_getElem (by rw [HNL.out]; exact hin)⟩
          obtain ⟨x0, x1⟩ := wd_cells HOWr.out rfl hx
          obtain ⟨hts, htl⟩ := wd_str HBY.out hx
          have hii : (i : Int) < (n : Int) := by omega
          rw [show 129 - C.length = (128 - C.length) + 1 by omega, pLoop_succ, wdAt_eq hx] at HPL
          obtain ⟨T, hT⟩ : ∃ T, strOfNums x.t = T := ⟨_, rfl⟩
          obtain ⟨tq, htq⟩ : ∃ q, x.q = q := ⟨_, rfl⟩
          rw [hT] at x0 hts
          rw [htq] at x1 HPL
          by_cases k0 : x.t = [125]
          · rw [if_pos k0] at HPL
            rw [HPL.out] at HPR
            simp only [if_pos] at HPR
            have hjn0 : i + 1 < n := by
              have := HWE.out i x hx (by rw [k0]; decide)
              rw [HNL.out] at this
              exact this
            have hcmp : (T.toList == [125]) = true := (str_eq _ _).trans (by rw [hts, k0]; decide)
            clear hT htq hts htl k0 hx HPL
            go_upto_region 29 with fail
            clear hcmp x0 x1 hii
            have hji : (i : Int) + 1 < (n : Int) := by omega
            obtain ⟨y, hy⟩ : ∃ x, L[i + 1]? = some x := ⟨_, List.getElem?_eq_getElem (by rw [HNL.out]; exact hjn0)⟩
            obtain ⟨x0, x1⟩ := wd_cells HOWr.out rfl hy
            obtain ⟨hts, htl⟩ := wd_str HBY.out hy
            rw [wdAt_eq hy] at HPR
            obtain ⟨T2, hT⟩ : ∃ T, strOfNums y.t = T := ⟨_, rfl⟩
            obtain ⟨tq2, htq⟩ : ∃ q, y.q = q := ⟨_, rfl⟩
            rw [hT] at x0 hts
            rw [htq] at x1 HPR
            by_cases k0 : y.t = []
            · rw [if_pos k0] at HPR
              have hcmp : (T2.toList == []) = true := (str_eq _ _).trans (by rw [hts, k0]; decide)
              clear hT htq hts htl k0 hy
              have p0 := HP0.out
              have p1 := HP1.out
              go_upto_region 31 with fail
              obtain ⟨nC, hnC⟩ : ∃ m, C.length = m := ⟨_, rfl⟩
              rw [hnC] at p1
              have HEF : Hid (Ex (fun _ => False) w ((wr.setCell ⟨r0, 0, none⟩ (.int .i64 idv)).setCell ⟨r0, 1, none⟩ (.slice va nC vc2))) := (HEr.out.setNew hr0n _).setNew hr0n _
              have HOF : Hid (((wr.setCell ⟨r0, 0, none⟩ (.int .i64 idv)).setCell ⟨r0, 1, none⟩ (.slice va nC vc2)).ownsRow w.heap.size 45 9 (.slice va nC vc2) C.length (flatC C)) := by
                have e2 : Ex (fun k => k = r0) wr ((wr.setCell ⟨r0, 0, none⟩ (.int .i64 idv)).setCell ⟨r0, 1, none⟩ (.slice va nC vc2)) := ((Ex.refl (fun k => k = r0) wr).set (p := r0) rfl _).set (p := r0) rfl _
                have h1 := own_kept HO.out e2 (fun k hk (z : k = r0) => by have := (HO.out.lt k hk).1; omega)
                rw [hnC] at h1 ⊢
                exact own_low h1 hwB
              clear hnC x0 x1 hji hjn0 hcmp hsm hin hC hSr hl0 h2n h3n h4n hii0 hii1 hii2
              go_wp2_with (with_reducible refine bodyPost_ret (v := .tuple #[.agg #[.int .i64 idv, .slice va nC vc2], .int .i64 0, .int .i64 0]) ?hr ?hd ?hp)
              case hr => simp [results, Try.results24, go_sem, d0, d1]
              case hd => rfl
              case hp =>
                rw [HPR.out]
                exact ⟨.slice va nC vc2, rfl, HEF.out, HOF.out⟩
            · rw [if_neg k0] at HPR
              have hcmp : (T2.toList == []) = false := by rw [str_eq, hts]; exact beq_eq_false_iff_ne.2 k0
              have HWR := hide (fun V => wrong_any V T2 y.t tq2 hts htl)
              obtain ⟨we, hwe⟩ : ∃ e, wrE y.t = e := ⟨_, rfl⟩
              rw [hwe] at HPR HWR
              have HRES := HPR
              have HE := HEr
              have hr0W : r0 < wr.heap.size := by omega
              have hw1 : IntKind.i64.wrap ((i : Int) + 1) = (i : Int) + 1 := by rw [IntKind.wrap_i64]; omega
              have hw2 : ((i : Int) + 1).toNat = i + 1 := by omega
              have hw3 : (0 : Int) ≤ (i : Int) + 1 := by omega
              clear k0 hwe hT htq hts htl hy
              go_upto_region 30 with fail
              clear hcmp
              generalize T2 = T at *
              generalize tq2 = tq at *
              refine wp_region_held_drew (S := fun w' => w'.cell? ⟨g, (i + 1) * 2, none⟩ = some (.string T) ∧ w'.cell? ⟨g, (i + 1) * 2 + 1, none⟩ = some (.int .i64 tq)) (by kernel_rfl) (And.intro x0 x1) (fun hHeld => ?_)
              refine wpAnyH_take (i := 0) (v := ?_) rfl (by kernel_rfl) (by kernel_rfl) (by kernel_rfl) (fun _ _ _ h => h) (Or.inl ⟨by rfl, ?_⟩) (by assumption) ?_
              rotate_left
              · (intro w hSw; (try dsimp only at hSw); go_simp; try (with_reducible rfl))
              try simp only [Act.put, List.getElem_toArray, List.getElem_cons_zero, List.getElem_cons_succ, List.setIfInBounds_toArray, List.set_cons_zero, List.set_cons_succ]
              refine wpAnyH_take (i := 1) (v := ?_) rfl (by kernel_rfl) (by kernel_rfl) (by kernel_rfl) (fun _ _ _ h => h) (Or.inl ⟨by rfl, ?_⟩) (by assumption) ?_
              rotate_left
              · (intro w hSw; (try dsimp only at hSw); go_simp; try (with_reducible rfl))
              try simp only [Act.put, List.getElem_toArray, List.getElem_cons_zero, List.getElem_cons_succ, List.setIfInBounds_toArray, List.set_cons_zero, List.set_cons_succ]
              refine wpAnyH_take (i := 2) (v := ?_) rfl (by kernel_rfl) (by kernel_rfl) (by kernel_rfl) (fun _ _ _ h => h) (Or.inl ⟨by rfl, ?_⟩) (by assumption) ?_
              rotate_left
              · (intro w hSw; (try dsimp only at hSw); go_simp; try (with_reducible rfl))
              try simp only [Act.put, List.getElem_toArray, List.getElem_cons_zero, List.getElem_cons_succ, List.setIfInBounds_toArray, List.set_cons_zero, List.set_cons_succ]
              refine wpAnyH_take (i := 3) (v := ?_) rfl (by kernel_rfl) (by kernel_rfl) (by kernel_rfl) (fun _ _ _ h => h) (Or.inl ⟨by rfl, ?_⟩) (by assumption) ?_
              rotate_left
              · (intro w hSw; (try dsimp only at hSw); go_simp; try (with_reducible rfl))
              try simp only [Act.put, List.getElem_toArray, List.getElem_cons_zero, List.getElem_cons_succ, List.setIfInBounds_toArray, List.set_cons_zero, List.set_cons_succ]
              refine wpAnyH_take (i := 4) (v := ?_) rfl (by kernel_rfl) (by kernel_rfl) (by kernel_rfl) (fun _ _ _ h => h) (Or.inl ⟨by rfl, ?_⟩) (by assumption) ?_
              rotate_left
              · (intro w hSw; (try dsimp only at hSw); go_simp; try (with_reducible rfl))
              try simp only [Act.put, List.getElem_toArray, List.getElem_cons_zero, List.getElem_cons_succ, List.setIfInBounds_toArray, List.set_cons_zero, List.set_cons_succ]
              refine wpAnyH_take (i := 5) (v := ?_) rfl (by kernel_rfl) (by kernel_rfl) (by kernel_rfl) (fun _ _ _ h => h) (Or.inl ⟨by rfl, ?_⟩) (by assumption) ?_
              rotate_left
              · (intro w hSw; (try dsimp only at hSw); go_simp; try (with_reducible rfl))
              try simp only [Act.put, List.getElem_toArray, List.getElem_cons_zero, List.getElem_cons_succ, List.setIfInBounds_toArray, List.set_cons_zero, List.set_cons_succ]
              refine wpAnyH_take (i := 8) (v := ?_) rfl (by kernel_rfl) (by kernel_rfl) (by kernel_rfl) (fun _ _ _ h => h) (Or.inl ⟨by rfl, ?_⟩) (by assumption) ?_
              rotate_left
              · (intro w hSw; (try dsimp only at hSw); go_simp; try (with_reducible rfl))
              try simp only [Act.put, List.getElem_toArray, List.getElem_cons_zero, List.getElem_cons_succ, List.setIfInBounds_toArray, List.set_cons_zero, List.set_cons_succ]
              refine wpAnyH_take (i := 9) (v := ?_) rfl (by kernel_rfl) (by kernel_rfl) (by kernel_rfl) (fun _ _ _ h => h) (Or.inl ⟨by rfl, ?_⟩) (by assumption) ?_
              rotate_left
              · (intro w hSw; (try dsimp only at hSw); go_simp; try (with_reducible rfl))
              try simp only [Act.put, List.getElem_toArray, List.getElem_cons_zero, List.getElem_cons_succ, List.setIfInBounds_toArray, List.set_cons_zero, List.set_cons_succ]
              refine wpAnyH_take (i := 10) (v := ?_) rfl (by kernel_rfl) (by kernel_rfl) (by kernel_rfl) (fun _ _ _ h => h) (Or.inl ⟨by rfl, ?_⟩) (by assumption) ?_
              rotate_left
              · (intro w hSw; (try dsimp only at hSw); go_simp; try (with_reducible rfl))
              try simp only [Act.put, List.getElem_toArray, List.getElem_cons_zero, List.getElem_cons_succ, List.setIfInBounds_toArray, List.set_cons_zero, List.set_cons_succ]
              refine wpAnyH_take (i := 11) (v := ?_) rfl (by kernel_rfl) (by kernel_rfl) (by kernel_rfl) (fun _ _ _ h => h) (Or.inl ⟨by rfl, ?_⟩) (by assumption) ?_
              rotate_left
              · (intro w hSw; (try dsimp only at hSw); go_simp; try (with_reducible rfl))
              try simp only [Act.put, List.getElem_toArray, List.getElem_cons_zero, List.getElem_cons_succ, List.setIfInBounds_toArray, List.set_cons_zero, List.set_cons_succ]
              refine wpAnyH_take (i := 12) (v := ?_) rfl (by kernel_rfl) (by kernel_rfl) (by kernel_rfl) (fun _ _ _ h => h) (Or.inl ⟨by rfl, ?_⟩) (by assumption) ?_
              rotate_left
              · (intro w hSw; (try dsimp only at hSw); go_simp; try (with_reducible rfl))
              try simp only [Act.put, List.getElem_toArray, List.getElem_cons_zero, List.getElem_cons_succ, List.setIfInBounds_toArray, List.set_cons_zero, List.set_cons_succ]
              refine wpAnyH_take (i := 13) (v := ?_) rfl (by kernel_rfl) (by kernel_rfl) (by kernel_rfl) (fun _ _ _ h => h) (Or.inl ⟨by rfl, ?_⟩) (by assumption) ?_
              rotate_left
              · (intro w hSw; (try dsimp only at hSw); go_simp; try (with_reducible rfl))
              try simp only [Act.put, List.getElem_toArray, List.getElem_cons_zero, List.getElem_cons_succ, List.setIfInBounds_toArray, List.set_cons_zero, List.set_cons_succ]
              refine wpAnyH_ready (rs := [6]) (by kernel_rfl) (by simp) ?_
              refine (AllReadyH.cons rfl (fun K hK => ?_) AllReadyH.nil)
              · refine step_call rfl 42 #[.agg #[.string T, .int .i64 tq]] (by simp [go_sem]) (HWR.out _) ?_
                rintro e w6 ⟨rfl, hex6⟩
                refine ⟨_, rfl, ?_⟩
                have HEX6 := hide hex6
                have y0 : w6.cell? ⟨r0, 0, none⟩ = some (.int .i64 0) := hex6.cell (fun e => e) (by simp [go_sem, d0, d1])
                have y1 : w6.cell? ⟨r0, 1, none⟩ = some (.slice none 0 0) := hex6.cell (fun e => e) (by simp [go_sem, d0, d1])
                have yf : ∀ j, w6.frozen? ⟨r0, j, none⟩ = false := fun j => (hex6.frozen (fun e => e) (by simp [go_sem]; exact hr0W)).trans (by simp [go_sem, df])
                clear hex6
                refine hK.out _ _ ?_ (fun hHeld => ?_)
                · first | exact hHeld | exact ⟨HEX6.out.cell (fun e => e) hHeld.1, HEX6.out.cell (fun e => e) hHeld.2⟩ | (simp [go_sem, hHeld.1, hHeld.2, hgr0, d0, d1, y0, y1]; done) | (simp [go_sem, hHeld.1, hHeld.2, hgr0, d0, d1]; done)
                clear hK K
                try simp only [Act.put, List.getElem_toArray, List.getElem_cons_zero, List.getElem_cons_succ, List.setIfInBounds_toArray, List.set_cons_zero, List.set_cons_succ]
                refine wpAnyH_take (i := 7) (v := ?_) rfl (by kernel_rfl) (by kernel_rfl) (by kernel_rfl) (fun _ _ _ h => h) (Or.inl ⟨by rfl, ?_⟩) (by assumption) ?_
                rotate_left
                · (intro w hSw; (try dsimp only at hSw); (have hfl := Try.fld109 w we tq); go_simp; try (with_reducible rfl))
                try simp only [Act.put, List.getElem_toArray, List.getElem_cons_zero, List.getElem_cons_succ, List.setIfInBounds_toArray, List.set_cons_zero, List.set_cons_succ]
                refine wpAnyH_ready (rs := [14]) (by kernel_rfl) (by simp) ?_
                refine (AllReadyH.cons rfl (fun K hK => ?_) AllReadyH.nil)
                · go_simp
                  refine hK.out _ _ ?_ (fun hHeld => ?_)
                  · first | exact hHeld | exact ⟨HEX6.out.cell (fun e => e) hHeld.1, HEX6.out.cell (fun e => e) hHeld.2⟩ | (simp [go_sem, hHeld.1, hHeld.2, hgr0, d0, d1, y0, y1]; done) | (simp [go_sem, hHeld.1, hHeld.2, hgr0, d0, d1]; done)
                  clear hK K
                  try simp only [Act.put, List.getElem_toArray, List.getElem_cons_zero, List.getElem_cons_succ, List.setIfInBounds_toArray, List.set_cons_zero, List.set_cons_succ]
                  refine wpAnyH_take (i := 15) (v := ?_) rfl (by kernel_rfl) (by kernel_rfl) (by kernel_rfl) (fun _ _ _ h => h) (Or.inl ⟨by rfl, ?_⟩) (by assumption) ?_
                  rotate_left
                  · (intro w hSw; (try dsimp only at hSw); go_simp; try (with_reducible rfl))
                  try simp only [Act.put, List.getElem_toArray, List.getElem_cons_zero, List.getElem_cons_succ, List.setIfInBounds_toArray, List.set_cons_zero, List.set_cons_succ]
                  refine wpAnyH_take (i := 16) (v := ?_) rfl (by kernel_rfl) (by kernel_rfl) (by kernel_rfl) (fun _ _ _ h => h) (Or.inl ⟨by rfl, ?_⟩) (by assumption) ?_
                  rotate_left
                  · (intro w hSw; (try dsimp only at hSw); go_simp; try (with_reducible rfl))
                  try simp only [Act.put, List.getElem_toArray, List.getElem_cons_zero, List.getElem_cons_succ, List.setIfInBounds_toArray, List.set_cons_zero, List.set_cons_succ]
                  refine wpAnyH_done (by kernel_rfl) ?_ _
                  clear hHeld x0 x1 hw1 hw2 hw3 hji hjn0 hsm hin hC hSr hl0 h2n h3n h4n hii0 hii1 hii2
                  go_wp2_with (with_reducible refine bodyPost_ret (v := .tuple #[.agg #[.int .i64 0, .slice none 0 0], .int .i64 we, .int .i64 tq]) ?hr ?hd ?hp)
                  case hr => simp [results, Try.results24, go_sem, y0, y1]
                  case hd => rfl
                  case hp =>
                    rw [HRES.out]
                    refine ⟨.slice none 0 0, rfl, ?_, World.ownsRow_nil _ _ _ _⟩
                    first
                      | exact ((HE.out.drew.trans HEX6.out).setNew hr0n _).setNew hr0n _
                      | exact ((HE.out.drew.setNew hr0n _).setNew hr0n _).trans HEX6.out
                      | exact (((HE.out.setNew hr0n _).setNew hr0n _).drew).trans HEX6.out
          · rw [if_neg k0] at HPL
            have hcmp : (T.toList == [125]) = false := by rw [str_eq, hts]; exact beq_eq_false_iff_ne.2 k0
            clear hT htq hts htl k0 hx
            obtain ⟨nC, hnC⟩ : ∃ m, C.length = m := ⟨_, rfl⟩
            have p1 := HP1.out
            rw [hnC] at p1
            by_cases k1 : C.length = 128
            · rw [if_pos k1] at HPL
              rw [hnC] at k1
              subst k1
              have HRES : Hid (PR = ⟨0, [], 4, tq⟩) := by
                have := HPR.out
                rw [HPL.out] at this
                exact this
              have HEF : Hid (Ex (fun _ => False) w ((wr.setCell ⟨r0, 0, none⟩ (.int .i64 0)).setCell ⟨r0, 1, none⟩ (.slice none 0 0)).drew) := ((HEr.out.setNew hr0n _).setNew hr0n _).drew
              clear HPR HPL hnC
              go_upto_region 14 with fail
              go_region
              go_wp2_with (with_reducible refine bodyPost_ret (v := .tuple #[.agg #[.int .i64 0, .slice none 0 0], .int .i64 4, .int .i64 tq]) ?hr ?hd ?hp)
              case hr => simp [results, Try.results24, go_sem, d0, d1]
              case hd => rfl
              case hp =>
                rw [HRES.out]
                exact ⟨.slice none 0 0, rfl, HEF.out, World.ownsRow_nil _ _ _ _⟩
            · rw [if_neg k1] at HPL
              have hC2 : C.length < 128 := by omega
              have hcc : ((nC : Int) == 128) = false := by rw [hnC] at k1; simp; omega
              clear k1
              have HCN := hide hnC
              clear hnC
              obtain ⟨a1, a2, a3, a4⟩ := two_new wr [.int .i64 0, .int .i64 0, .int .i64 0, .int .i64 0, .int .i64 0, .int .i64 0, .int .i64 0, .bool false, .bool false] [.int .i64 0, .int .i64 0] 45 109
              have HA2 := hide a2
              have HCS0 : Hid (CS ((wr.alloc (.cells #[.int .i64 0, .int .i64 0, .int .i64 0, .int .i64 0, .int .i64 0, .int .i64 0, .int .i64 0, .bool false, .bool false] 45)).alloc (.cells #[.int .i64 0, .int .i64 0] 109)) wr.heap.size Chg.zero) := ⟨a1 0 _ rfl, a1 1 _ rfl, a1 2 _ rfl, a1 3 _ rfl, a1 4 _ rfl, a1 5 _ rfl, a1 6 _ rfl, a1 7 _ rfl, a1 8 _ rfl, fun j => by simp [go_sem]⟩
              have HA3 := hide a3
              have HA4 := hide a4
              have hsz2 : ((wr.alloc (.cells #[.int .i64 0, .int .i64 0, .int .i64 0, .int .i64 0, .int .i64 0, .int .i64 0, .int .i64 0, .bool false, .bool false] 45)).alloc (.cells #[.int .i64 0, .int .i64 0] 109)).heap.size = wr.heap.size + 2 := by simp [go_sem]
              clear a1 a2 a3 a4
              go_upto_region 19 with fail
              clear hcmp hcc x0 x1 p1
              generalize (wr.alloc (.cells #[.int .i64 0, .int .i64 0, .int .i64 0, .int .i64 0, .int .i64 0, .int .i64 0, .int .i64 0, .bool false, .bool false] 45)).alloc (.cells #[.int .i64 0, .int .i64 0] 109) = Wa at *
              obtain ⟨r13, hr13⟩ : ∃ r, wr.heap.size + 1 = r := ⟨_, rfl⟩
              rw [hr13] at HA2 HA3 ⊢
              obtain ⟨r11, hr11⟩ : ∃ r, wr.heap.size = r := ⟨_, rfl⟩
              rw [hr11] at HCS0 ⊢
              have n1 : ¬ r11 = r13 := by omega
              have n2 : B ≤ r11 := by omega
              have n3 : B ≤ r13 := by omega
              have n4 : ¬ g = r11 := by omega
              have n5 : ¬ g = r13 := by omega
              have hWa : r13 < Wa.heap.size := by omega
              have hWb : r11 < Wa.heap.size := by omega
              have HNW : Hid (wr.heap.size ≤ r11 ∧ wr.heap.size ≤ r13) := ⟨by omega, by omega⟩
              clear hr13 hr11 hsz2
              have HOWa := hide (own_kept HOWr.out HA4.out (fun _ _ e => e))
              have HXA : Hid (Ex (fun k => k = p) W6 Wa) := HX.out.trans (HA4.out.mono (fun _ z => z.elim))
              have HEA : Hid (Ex (fun _ => False) w Wa) := HEr.out.trans HA4.out
              have HQ1 : Hid (Wa.cell? ⟨p, 1, none⟩ = some (.slice va nC vc2)) := by
                have := HA4.out.cell (fun e => e) HP1.out
                rw [HCN.out] at this
                exact this
              have HQ0 := hide (HA4.out.cell (fun e => e) HP0.out)
              have hpr : p < wr.heap.size := by omega
              have HQF := hide (HA4.out.frw (fun e => e) hpr HPF.out)
              have HOa : Hid (Wa.ownsRow B 45 9 (.slice va nC vc2) nC (flatC C)) := by
                have := own_kept HO.out HA4.out (fun _ _ e => e)
                rw [HCN.out] at this
                exact this
              have HRL : Hid (∀ k, (Value.slice va nC vc2).ownBlock = some k → k < r11 ∧ k < r13) := fun k hk => by
                have h1 := (HO.out.lt k (by rw [HCN.out]; exact hk)).2
                have := HNW.out
                omega
              have HDA0 := hide (HA4.out.cell (fun e => e) d0)
              have HDA1 := hide (HA4.out.cell (fun e => e) d1)
              have HDAF := hide (HA4.out.frw (fun e => e) (by omega) df)
              have HMS : Hid (129 - sliLen (wr.cell? ⟨p, 1, none⟩) = 129 - nC) := by show _ = _; rw [HP1.out, HCN.out]; rfl
              have q1 : ¬ (p = r11 ∨ p = r13) := by omega
              have q2 : ¬ (r0 = r11 ∨ r0 = r13) := by omega
              clear d0 d1 df
              go_wp2_with fail
              go_loopw [10, 12, 14] (fun s10 s12 s14 wr => ∃ (k tk : Nat) (bs e a : Int) (c : Chg), s10 = .int .i64 bs ∧ s12 = .int .i64 tk ∧ s14 = .int .i64 k ∧ k ≤ 6 ∧ Hid (bestN L i k = (bs, c, tk, e, a)) ∧ Hid (CS wr r11 c) ∧ Hid (wr.cell? ⟨r13, 0, none⟩ = some (.int .i64 e)) ∧ Hid (wr.cell? ⟨r13, 1, none⟩ = some (.int .i64 a)) ∧ Hid (∀ j, wr.frozen? ⟨r13, j, none⟩ = false) ∧ Hid (Ex (fun q => q = r11 ∨ q = r13) Wa wr)) (fun _ _ s14 _ => 6 - (intOf s14).toNat)
              case atStart => exact ⟨0, 0, -1, 0, 0, Chg.zero, rfl, rfl, rfl, by omega, rfl, HCS0, HA2.out 0 _ rfl, HA2.out 1 _ rfl, HA3, Ex.refl _ _⟩
              case round =>
                clear HCS0 HA2 HA3
                obtain ⟨k, tk, bs, e, a, c, rfl, rfl, rfl, hk, HBN, HCS, HR0, HR1, HRF, HXa⟩ := hrel
                have HOWq := hide (own_kept HOWa.out HXa.out (fun q hq z => by
                  injection hq with hq
                  have hgq : g = q := hq
                  rcases z with z | z
                  · exact n4 (by omega)
                  · exact n5 (by omega)))
                by_cases hk6 : k < 6
                · have dk : decide ((k : Int) < 6) = true := decide_eq_true (by omega)
                  have HMT := hide (match_any wr g vc n L i (k : Int) ⟨by omega, by omega⟩ ⟨HNL.out.symm, HOWq.out, HBY.out, hsm⟩ HWE.out (by rw [HNL.out]; exact hin))
                  have HBS : Hid (bestN L i (k + 1) = bstep L i (bestN L i k) (k : Int)) := rfl
                  rw [HBN.out] at HBS
                  unfold bstep at HBS
                  unfold ofR at HBS
                  unfold MtPost at HMT
                  obtain ⟨⟨c2, tk2, m2, e2, a2⟩, hR⟩ : ∃ q, mtK L (k : Int) i = q := ⟨_, rfl⟩
                  rw [hR] at HBS HMT
                  simp only [] at HBS HMT
                  unfold chV at HMT
                  clear hR
                  go_wp2_with fail
                  refine HMT.out.mono ?_
                  rintro er W8 ⟨rfl, hex8⟩
                  clear HMT
                  have HX8 := hide (HXa.out.trans (hex8.mono (fun _ z => z.elim)))
                  have HCS8 := hide (HCS.out.other hex8 (fun e => e))
                  have h80 := hex8.cell (fun e => e) HR0.out
                  have h81 := hex8.cell (fun e => e) HR1.out
                  have hrl : r13 < wr.heap.size := by have := HXa.out.size; omega
                  have hrm : r11 < wr.heap.size := by have := HXa.out.size; omega
                  have h8f := hex8.frw (fun e => e) hrl HRF.out
                  have hs8 : wr.heap.size ≤ W8.heap.size := hex8.size
                  obtain ⟨a1, a2', a3, a4⟩ := two_new W8 (Chg.vals c2) [.int .i64 e2, .int .i64 a2] 45 109
                  have HV1 := hide a1
                  have HV2 := hide a2'
                  have HV4 := hide a4
                  clear a1 a2' a3 a4 hex8 HXa HCS HR0 HR1 HRF
                  have HCS9 := hide (HCS8.out.other HV4.out (fun e => e))
                  have HX9 := hide (HX8.out.trans (HV4.out.mono (fun _ z => z.elim)))
                  have h90 := HV4.out.cell (fun e => e) h80
                  have h91 := HV4.out.cell (fun e => e) h81
                  have h9f := HV4.out.frw (fun e => e) (by omega) h8f
                  clear h80 h81 h8f HCS8 HX8
                  go_upto_region 23 with fail
                  unfold Chg.vals at HV1 HV4 HCS9 HX9 h90 h91 h9f
                  unfold Chg.vals at HV2
                  generalize (W8.alloc (.cells #[.int .i64 c2.kd, .int .i64 c2.dv, .int .i64 c2.hp, .int .i64 c2.pr, .int .i64 c2.ln, .int .i64 c2.ix, .int .i64 c2.cl, .bool c2.pm, .bool c2.up] 45)).alloc (.cells #[.int .i64 e2, .int .i64 a2] 109) = W9 at *
                  have HS9 : Hid (W8.heap.size + 1 < W9.heap.size) := World.block_lt_of_cell? _ _ (HV2.out 0 _ rfl)
                  obtain ⟨r18, hr18⟩ : ∃ r, W8.heap.size + 1 = r := ⟨_, rfl⟩
                  rw [hr18] at HV2 HS9 ⊢
                  obtain ⟨r15, hr15⟩ : ∃ r, W8.heap.size = r := ⟨_, rfl⟩
                  rw [hr15] at HV1 ⊢
                  have m1 : ¬ r15 = r11 := by omega
                  have m2' : ¬ r15 = r13 := by omega
                  have m3 : ¬ r18 = r11 := by omega
                  have m4 : ¬ r18 = r13 := by omega
                  have hr11W : r11 < W9.heap.size := by have := HS9.out; omega
                  have hr13W : r13 < W9.heap.size := by have := HS9.out; omega
                  clear hr18 hr15 hs8 hrl hrm
                  have cf0 := HV2.out 0 _ rfl
                  have cf1 := HV2.out 1 _ rfl
                  have HC15 : Hid (∀ V : World, (∀ j u, [Value.int .i64 c2.kd, .int .i64 c2.dv, .int .i64 c2.hp, .int .i64 c2.pr, .int .i64 c2.ln, .int .i64 c2.ix, .int .i64 c2.cl, .bool c2.pm, .bool c2.up][j]? = some u → V.cell? ⟨r15, j, none⟩ = some u) → V.rangeAt r15 0 (Chg.vals c2)) := fun V h j u hj => by
                    rw [Nat.zero_add]
                    exact h j u hj
                  by_cases hgt : bs < (m2 : Int)
                  · have dg : decide (bs < (m2 : Int)) = true := decide_eq_true hgt
                    rw [if_pos hgt] at HBS
                    clear hgt
                    have HRG : Hid (W9.rangeAt r15 0 (Chg.vals c2)) := HC15.out _ HV1.out
                    have HT11 : Hid (W9.drew.there r11 0 9) := fun j hj => by
                      rw [Nat.zero_add]
                      obtain ⟨v, hv⟩ : ∃ v, (Chg.vals c)[j]? = some v := ⟨_, List.getElem?_eq_getElem (by simpa [Chg.vals] using hj)⟩
                      exact ⟨by show (W9.cell? _).isSome = true; rw [cs_cell HCS9.out j v hv]; rfl, HCS9.out.fr j⟩
                    have HT13 : Hid (W9.drew.there r13 0 2) := fun j hj => by
                      rw [Nat.zero_add]
                      rcases (by omega : j = 0 ∨ j = 1) with z | z <;> subst z
                      · exact ⟨by show (W9.cell? _).isSome = true; rw [h90]; rfl, h9f 0⟩
                      · exact ⟨by show (W9.cell? _).isSome = true; rw [h91]; rfl, h9f 1⟩
                    go_upto_region 24 with fail
                    clear dg
                    refine wp_region_held_drew (S := fun w' => w'.rangeAt r15 0 (Chg.vals c2) ∧ w'.cell? ⟨r18, 0, none⟩ = some (.int .i64 e2) ∧ w'.cell? ⟨r18, 1, none⟩ = some (.int .i64 a2)) (by kernel_rfl) (And.intro HRG.out (And.intro cf0 cf1)) (fun hHeld => ?_)
                    refine wpAnyH_take (i := 0) (v := ?_) rfl (by kernel_rfl) (by kernel_rfl) (by kernel_rfl) (fun _ _ _ h => h) (Or.inl ⟨by rfl, ?_⟩) (by assumption) ?_
                    rotate_left
                    · (intro w hSw; (try dsimp only at hSw); go_simp; try (with_reducible rfl))
                    try simp only [Act.put, List.getElem_toArray, List.getElem_cons_zero, List.getElem_cons_succ, List.setIfInBounds_toArray, List.set_cons_zero, List.set_cons_succ]
                    refine wpAnyH_take (i := 1) (v := .agg (Chg.vals c2).toArray) rfl (by kernel_rfl) (by kernel_rfl) (by kernel_rfl) (fun _ _ _ h => h) (yieldsIf_load_mid (by rfl) 45 (.tmp 15) rfl r15 0 rfl (Chg.vals c2) _ (fun w h => h.1) Try.underlying45 rfl Try.sz45) (by assumption) ?_
                    try simp only [Act.put, List.getElem_toArray, List.getElem_cons_zero, List.getElem_cons_succ, List.setIfInBounds_toArray, List.set_cons_zero, List.set_cons_succ]
                    refine wpAnyH_take (i := 2) (v := ?_) rfl (by kernel_rfl) (by kernel_rfl) (by kernel_rfl) (fun _ _ _ h => h) (Or.inl ⟨by rfl, ?_⟩) (by assumption) ?_
                    rotate_left
                    · (intro w hSw; (try dsimp only at hSw); go_simp; try (with_reducible rfl))
                    try simp only [Act.put, List.getElem_toArray, List.getElem_cons_zero, List.getElem_cons_succ, List.setIfInBounds_toArray, List.set_cons_zero, List.set_cons_succ]
                    refine wpAnyH_take (i := 3) (v := ?_) rfl (by kernel_rfl) (by kernel_rfl) (by kernel_rfl) (fun _ _ _ h => h) (Or.inl ⟨by rfl, ?_⟩) (by assumption) ?_
                    rotate_left
                    · (intro w hSw; (try dsimp only at hSw); (obtain ⟨q0, q1⟩ := hSw.2); go_simp; try (with_reducible rfl))
                    try simp only [Act.put, List.getElem_toArray, List.getElem_cons_zero, List.getElem_cons_succ, List.setIfInBounds_toArray, List.set_cons_zero, List.set_cons_succ]
                    refine wpAnyH_take (i := 4) (v := ?_) rfl (by kernel_rfl) (by kernel_rfl) (by kernel_rfl) (fun _ _ _ h => h) (Or.inl ⟨by rfl, ?_⟩) (by assumption) ?_
                    rotate_left
                    · (intro w hSw; (try dsimp only at hSw); go_simp; try (with_reducible rfl))
                    try simp only [Act.put, List.getElem_toArray, List.getElem_cons_zero, List.getElem_cons_succ, List.setIfInBounds_toArray, List.set_cons_zero, List.set_cons_succ]
                    refine wpAnyH_ready (rs := [5]) (by kernel_rfl) (by simp) ?_
                    refine (AllReadyH.cons rfl (fun K hK => ?_) AllReadyH.nil)
                    refine step_storeM rfl 45 (.tmp 11) (.tmp 101) rfl r11 0 (Chg.vals c2) rfl rfl HT11.out Try.sz45 (c1_one c2) ?_
                    refine hK.out _ _ ?_ (fun hHeld => ?_)
                    · exact ⟨fun j u hj => (exC (b := r11) _).cell m1 (hHeld.1 j u hj), (exC (b := r11) _).cell m3 hHeld.2.1, (exC (b := r11) _).cell m3 hHeld.2.2⟩
                    clear hK K
                    have HT13b := hide (there_keep HT13.out (exC (b := r11) (Chg.vals c2)) (fun z => n1 z.symm))
                    have HA6 : Hid (∀ j u, (Chg.vals c2)[j]? = some u → (W9.drew.setCells r11 0 (Chg.vals c2)).cell? ⟨r11, j, none⟩ = some u) := fun _ _ hu => setC_cell HT11.out (Chg.vals c2) rfl hu
                    have HF6 : Hid (∀ j, (W9.drew.setCells r11 0 (Chg.vals c2)).frozen? ⟨r11, j, none⟩ = false) := fun j => by rw [World.frozen?_setCells]; exact HCS9.out.fr j
                    have HF7 : Hid (∀ j, (W9.drew.setCells r11 0 (Chg.vals c2)).frozen? ⟨r13, j, none⟩ = false) := fun j => by rw [World.frozen?_setCells]; exact h9f j
                    have HX1 : Hid (Ex (fun q => q = r11 ∨ q = r13) Wa (W9.drew.setCells r11 0 (Chg.vals c2))) := HX9.out.drew.trans ((exC (b := r11) (Chg.vals c2)).mono (fun _ z => Or.inl z))
                    clear HT11 HT13 HX9 HCS9 h90 h91 h9f HRG HC15 HV1 HV2 HV4 cf0 cf1
                    generalize W9.drew.setCells r11 0 (Chg.vals c2) = V1 at *
                    try simp only [Act.put, List.getElem_toArray, List.getElem_cons_zero, List.getElem_cons_succ, List.setIfInBounds_toArray, List.set_cons_zero, List.set_cons_succ]
                    refine wpAnyH_take (i := 6) (v := ?_) rfl (by kernel_rfl) (by kernel_rfl) (by kernel_rfl) (fun _ _ _ h => h) (Or.inl ⟨by rfl, ?_⟩) (by assumption) ?_
                    rotate_left
                    · (intro w hSw; (try dsimp only at hSw); go_simp; try (with_reducible rfl))
                    try simp only [Act.put, List.getElem_toArray, List.getElem_cons_zero, List.getElem_cons_succ, List.setIfInBounds_toArray, List.set_cons_zero, List.set_cons_succ]
                    refine wpAnyH_ready (rs := [7]) (by kernel_rfl) (by simp) ?_
                    refine (AllReadyH.cons rfl (fun K hK => ?_) AllReadyH.nil)
                    refine step_storeM rfl 109 (.tmp 13) (.tmp 103) rfl r13 0 [.int .i64 e2, .int .i64 a2] rfl rfl HT13b.out Try.sz109 (f2_one e2 a2) ?_
                    refine hK.out _ _ ?_ (fun hHeld => ?_)
                    · exact ⟨fun j u hj => (exC (b := r13) _).cell m2' (hHeld.1 j u hj), (exC (b := r13) _).cell m4 hHeld.2.1, (exC (b := r13) _).cell m4 hHeld.2.2⟩
                    clear hK K
                    have HC7 : Hid (CS (V1.setCells r13 0 [.int .i64 e2, .int .i64 a2]) r11 c2) := by
                      have q := fun j u hu => (exC (w := V1) (b := r13) [.int .i64 e2, .int .i64 a2]).cell (q := r11) n1 (HA6.out j u hu)
                      exact ⟨q 0 _ rfl, q 1 _ rfl, q 2 _ rfl, q 3 _ rfl, q 4 _ rfl, q 5 _ rfl, q 6 _ rfl, q 7 _ rfl, q 8 _ rfl, fun j => by rw [World.frozen?_setCells]; exact HF6.out j⟩
                    have AE0 : Hid ((V1.setCells r13 0 [.int .i64 e2, .int .i64 a2]).cell? ⟨r13, 0, none⟩ = some (.int .i64 e2)) := setC_cell HT13b.out _ rfl rfl
                    have AE1 : Hid ((V1.setCells r13 0 [.int .i64 e2, .int .i64 a2]).cell? ⟨r13, 1, none⟩ = some (.int .i64 a2)) := setC_cell HT13b.out _ rfl rfl
                    have HFF : Hid (∀ j, (V1.setCells r13 0 [.int .i64 e2, .int .i64 a2]).frozen? ⟨r13, j, none⟩ = false) := fun j => by rw [World.frozen?_setCells]; exact HF7.out j
                    have HX2 : Hid (Ex (fun q => q = r11 ∨ q = r13) Wa (V1.setCells r13 0 [.int .i64 e2, .int .i64 a2])) := HX1.out.trans ((exC (b := r13) [.int .i64 e2, .int .i64 a2]).mono (fun _ z => Or.inr z))
                    clear HT13b HA6 HF6 HF7 HX1 hHeld
                    generalize V1.setCells r13 0 [.int .i64 e2, .int .i64 a2] = V2 at *
                    try simp only [Act.put, List.getElem_toArray, List.getElem_cons_zero, List.getElem_cons_succ, List.setIfInBounds_toArray, List.set_cons_zero, List.set_cons_succ]
                    refine wpAnyH_done (by kernel_rfl) ?_ _
                    go_wp2
                    go_roundw
                    case rel => exact ⟨k + 1, tk2, (m2 : Int), e2, a2, c2, rfl, rfl, by go_num, by omega, HBS, HC7, AE0, AE1, HFF, HX2⟩
                    case measure => (simp [intOf]; try omega)
                  · have dg : decide (bs < (m2 : Int)) = false := decide_eq_false hgt
                    rw [if_neg hgt] at HBS
                    clear hgt cf0 cf1 HC15 HV1 HV2
                    go_wp2
                    go_roundw
                    case rel => exact ⟨k + 1, tk, bs, e, a, c, rfl, rfl, by go_num, by omega, HBS, HCS9, h90, h91, h9f, HX9⟩
                    case measure => (simp [intOf]; try omega)
                · obtain rfl : k = 6 := by omega
                  have dk : decide (((6 : Nat) : Int) < 6) = false := by decide
                  clear HOWq HOWa HOWr
                  rw [HBN.out] at HPL
                  simp only [] at HPL
                  have z0 := HR0.out
                  have z1 := HR1.out
                  have HSZ : Hid (Wa.heap.size ≤ wr.heap.size) := HXa.out.size
                  by_cases hz : e = 0
                  · have hin2 : i + tk < n := by
                      have := bestN_in (i := i) HWE.out (by rw [HNL.out]; exact hin) 6 (Nat.le_refl _) (by rw [HBN.out]; exact hz)
                      rw [HBN.out, HNL.out] at this
                      exact this
                    rw [if_pos hz] at HPL
                    subst hz
                    have t1 := HXa.out.cell q1 HQ1.out
                    have t0 := HXa.out.cell q1 HQ0.out
                    have tf := HXa.out.frw q1 (by have := HSZ.out; omega) HQF.out
                    have HOq := hide (own_kept HOa.out HXa.out (fun k hk z => by have := HRL.out k hk; rcases z with z | z <;> omega))
                    have HOL : Hid (∀ k, (Value.slice va nC vc2).ownBlock = some k → B ≤ k) := fun k hk => (HOa.out.lt k hk).1
                    have HXq : Hid (Ex (fun k => k = p) W6 wr) := HXA.out.trans2 HXa.out (fun k hk => .inr (by have := HB.out; rcases hk with z | z <;> omega))
                    have hnc : nC < 128 := by have := HCN.out; omega
                    obtain ⟨ckd, cdv, chp, cpr, cln, cix, ccl, cpm, cup⟩ := c
                    obtain ⟨k0, k1, k2, k3, k4, k5, k6, k7, k8, _⟩ := HCS.out
                    simp only [] at k0 k1 k2 k3 k4 k5 k6 k7 k8
                    have hpw : p < wr.heap.size := World.block_lt_of_cell? _ _ t1
                    have t1a : (wr.alloc (.cells #[.int .i64 ckd, .int .i64 cdv, .int .i64 chp, .int .i64 cpr, .int .i64 cln, .int .i64 cix, .int .i64 ccl, .bool cpm, .bool cup] 45)).cell? ⟨p, 1, none⟩ = some (.slice va nC vc2) := ((Ex.refl (fun _ => False) wr).alloc _).cell (fun e => e) t1
                    have t0a : (wr.alloc (.cells #[.int .i64 ckd, .int .i64 cdv, .int .i64 chp, .int .i64 cpr, .int .i64 cln, .int .i64 cix, .int .i64 ccl, .bool cpm, .bool cup] 45)).cell? ⟨p, 0, none⟩ = some (.int .i64 idv) := ((Ex.refl (fun _ => False) wr).alloc _).cell (fun e => e) t0
                    have tfa : ∀ j, (wr.alloc (.cells #[.int .i64 ckd, .int .i64 cdv, .int .i64 chp, .int .i64 cpr, .int .i64 cln, .int .i64 cix, .int .i64 ccl, .bool cpm, .bool cup] 45)).frozen? ⟨p, j, none⟩ = false := ((Ex.refl (fun _ => False) wr).alloc _).frw (fun e => e) hpw tf
                    have hpa : p < (wr.alloc (.cells #[.int .i64 ckd, .int .i64 cdv, .int .i64 chp, .int .i64 cpr, .int .i64 cln, .int .i64 cix, .int .i64 ccl, .bool cpm, .bool cup] 45)).heap.size := by simp [go_sem]; omega
                    have hpne : some p ≠ (Value.slice va nC vc2).ownBlock := fun z => by have := HOL.out p z.symm; omega
                    go_upto_region 27 with fail
                    go_upto_region 28 with (at_builtin; go_loud (refine wpList_append_own _ rfl (.tmp 113) (.tmp 115) 35 rfl B 45 i1 _ 9 64 Try.underlying35 HI.out.1 HI.out.2.1 HI.out.2.2.1 HI.out.2.2.2 rfl (by decide) (.slice va nC vc2) nC (flatC C) rfl (HOq.out.alloc _) ⟨wr.heap.size, 0, none⟩ 1 1 [.int .i64 ckd, .int .i64 cdv, .int .i64 chp, .int .i64 cpr, .int .i64 cln, .int .i64 cix, .int .i64 ccl, .bool cpm, .bool cup] rfl rfl (fun j u hj => new_cells wr [.int .i64 ckd, .int .i64 cdv, .int .i64 chp, .int .i64 cpr, .int .i64 cln, .int .i64 cix, .int .i64 ccl, .bool cpm, .bool cup] 45 j u hj) (fun u hu => c1_one ⟨ckd, cdv, chp, cpr, cln, cix, ccl, cpm, cup⟩ u hu) (by unfold maxLen; omega) (by omega) (by have := HSZ.out; have := HXA.out.size; have := HB.out; simp; omega) ?_; intro v6 w6 hown6 hgrow6 _; have HOW6' := hide hown6; have HGR6 := hide hgrow6; obtain ⟨va', vc', rfl⟩ := own_len hown6; have t16 : w6.cell? ⟨p, 1, none⟩ = some (.slice va nC vc2) := hgrow6.cell t1a hpne; have t06 : w6.cell? ⟨p, 0, none⟩ = some (.int .i64 idv) := hgrow6.cell t0a hpne; have tf6 : ∀ j, w6.frozen? ⟨p, j, none⟩ = false := fun j => (hgrow6.frozen_far ⟨p, j, none⟩ hpa hpne).trans (tfa j); clear hown6 hgrow6))
                    have HE6' : Hid (Ex (fun k => k = p) W6 w6) := (HXq.out.alloc (.cells #[.int .i64 ckd, .int .i64 cdv, .int .i64 chp, .int .i64 cpr, .int .i64 cln, .int .i64 cix, .int .i64 ccl, .bool cpm, .bool cup] 45)).trans2 (Ex.ofGrown (S := fun k => (Value.slice va nC vc2).ownBlock = some k) HGR6.out (fun k hk => hk.symm)) (fun k hk => .inr (by have := HOL.out k hk; have := HB.out; omega))
                    have HXf : Hid (Ex (fun k => k = p) W6 (w6.setCell ⟨p, 1, none⟩ (.slice va' (nC + 1) vc'))) := HE6'.out.set (p := p) rfl _
                    have HP1f : Hid ((w6.setCell ⟨p, 1, none⟩ (.slice va' (nC + 1) vc')).cell? ⟨p, 1, none⟩ = some (.slice va' (nC + 1) vc')) := World.cell?_setCell_same _ _ _ t16
                    have HP0f : Hid ((w6.setCell ⟨p, 1, none⟩ (.slice va' (nC + 1) vc')).cell? ⟨p, 0, none⟩ = some (.int .i64 idv)) := by show _ = _; rw [set_at _ _ _ _ _ _ t16, if_neg (by omega)]; exact t06
                    have HPFf : Hid (∀ j, (w6.setCell ⟨p, 1, none⟩ (.slice va' (nC + 1) vc')).frozen? ⟨p, j, none⟩ = false) := fun j => by rw [set_frozen]; exact tf6 j
                    have HOf : Hid ((w6.setCell ⟨p, 1, none⟩ (.slice va' (nC + 1) vc')).ownsRow B 45 9 (.slice va' (nC + 1) vc') (nC + 1) (flatC (C ++ [⟨ckd, cdv, chp, cpr, cln, cix, ccl, cpm, cup⟩]))) := by
                      have h1 := own_kept HOW6'.out ((Ex.refl (fun k => k = p) w6).set (p := p) (j := 1) rfl (.slice va' (nC + 1) vc')) (fun k hk (z : k = p) => by have := (HOW6'.out.lt k hk).1; omega)
                      show World.ownsRow _ _ _ _ _ _ _
                      rw [flatC_snoc]
                      exact h1
                    have HLf : Hid ((C ++ [(⟨ckd, cdv, chp, cpr, cln, cix, ccl, cpm, cup⟩ : Chg)]).length = nC + 1) := by show _ = _; rw [List.length_append, HCN.out]; rfl
                    have HPLf : Hid (PL = pLoop L (129 - (nC + 1)) (i + tk) (C ++ [⟨ckd, cdv, chp, cpr, cln, cix, ccl, cpm, cup⟩])) := by
                      have := HPL.out
                      rw [HCN.out, show 128 - nC = 129 - (nC + 1) by omega] at this
                      exact this
                    clear HGR6 HOW6' t16 t06 tf6 t1a t0a tfa t1 t0 tf hpa hpne k0 k1 k2 k3 k4 k5 k6 k7 k8 z0 z1 HE6' HOq HPL
                    generalize w6.setCell ⟨p, 1, none⟩ (.slice va' (nC + 1) vc') = W7 at *
                    generalize C ++ [(⟨ckd, cdv, chp, cpr, cln, cix, ccl, cpm, cup⟩ : Chg)] = C' at *
                    rw [← HLf.out] at HP1f HOf HPLf
                    go_wp2
                    go_roundw
                    case rel => exact ⟨i + tk, C', va', vc', by go_num, hin2, by rw [HLf.out]; omega, HP1f, HP0f, HPFf, HOf, HXf, HPLf⟩
                    case measure =>
                      rw [HMS.out, HP1f.out]
                      show 129 - C'.length < 129 - nC
                      rw [HLf.out]
                      omega
                  · have hzb : (e == 0) = false := by simpa using hz
                    rw [if_neg hz] at HPL
                    have HRES : Hid (PR = ⟨0, [], e, a⟩) := by
                      have := HPR.out
                      rw [HPL.out] at this
                      simp only [if_neg hz] at this
                      exact this
                    have d0 := HXa.out.cell q2 HDA0.out
                    have d1 := HXa.out.cell q2 HDA1.out
                    have df := HXa.out.frw q2 (by omega) HDAF.out
                    have HEF : Hid (Ex (fun _ => False) w ((wr.setCell ⟨r0, 0, none⟩ (.int .i64 0)).setCell ⟨r0, 1, none⟩ (.slice none 0 0)).drew) := (((HEA.out.trans2 HXa.out (fun k hk => .inr (by rcases hk with z | z <;> omega))).setNew hr0n _).setNew hr0n _).drew
                    clear hz HPL HPR
                    go_upto_region 26 with fail
                    go_region
                    go_wp2_with (with_reducible refine bodyPost_ret (v := .tuple #[.agg #[.int .i64 0, .slice none 0 0], .int .i64 e, .int .i64 a]) ?hr ?hd ?hp)
                    case hr => simp [results, Try.results24, go_sem, d0, d1]
                    case hd => rfl
                    case hp =>
                      rw [HRES.out]
                      exact ⟨.slice none 0 0, rfl, HEF.out, World.ownsRow_nil _ _ _ _⟩
      · rw [if_neg k0] at HPR
        have hcmp : (T.toList == [123]) = false := by rw [str_eq, hts]; exact beq_eq_false_iff_ne.2 k0
        have HWR := hide (fun V => wrong_any V T x.t tq hts htl)
        obtain ⟨we, hwe⟩ : ∃ e, wrE x.t = e := ⟨_, rfl⟩
        rw [hwe] at HPR HWR
        have HRES := HPR
        have HE := HE6
        have d0 := e0
        have d1 := e1
        have df := ef
        have hr0W := hr0W5
        clear k0 hwe hT htq hts htl hx e0 e1 ef HE6
        go_upto_region 10 with fail
        clear hcmp
        refine wp_region_held_drew (S := fun w' => w'.cell? ⟨g, 4, none⟩ = some (.string T) ∧ w'.cell? ⟨g, 5, none⟩ = some (.int .i64 tq)) (by kernel_rfl) (And.intro x0 x1) (fun hHeld => ?_)
        refine wpAnyH_take (i := 0) (v := ?_) rfl (by kernel_rfl) (by kernel_rfl) (by kernel_rfl) (fun _ _ _ h => h) (Or.inl ⟨by rfl, ?_⟩) (by assumption) ?_
        rotate_left
        · (intro w hSw; (try dsimp only at hSw); go_simp; try (with_reducible rfl))
        try simp only [Act.put, List.getElem_toArray, List.getElem_cons_zero, List.getElem_cons_succ, List.setIfInBounds_toArray, List.set_cons_zero, List.set_cons_succ]
        refine wpAnyH_take (i := 1) (v := ?_) rfl (by kernel_rfl) (by kernel_rfl) (by kernel_rfl) (fun _ _ _ h => h) (Or.inl ⟨by rfl, ?_⟩) (by assumption) ?_
        rotate_left
        · (intro w hSw; (try dsimp only at hSw); go_simp; try (with_reducible rfl))
        try simp only [Act.put, List.getElem_toArray, List.getElem_cons_zero, List.getElem_cons_succ, List.setIfInBounds_toArray, List.set_cons_zero, List.set_cons_succ]
        refine wpAnyH_take (i := 2) (v := ?_) rfl (by kernel_rfl) (by kernel_rfl) (by kernel_rfl) (fun _ _ _ h => h) (Or.inl ⟨by rfl, ?_⟩) (by assumption) ?_
        rotate_left
        · (intro w hSw; (try dsimp only at hSw); go_simp; try (with_reducible rfl))
        try simp only [Act.put, List.getElem_toArray, List.getElem_cons_zero, List.getElem_cons_succ, List.setIfInBounds_toArray, List.set_cons_zero, List.set_cons_succ]
        refine wpAnyH_take (i := 3) (v := ?_) rfl (by kernel_rfl) (by kernel_rfl) (by kernel_rfl) (fun _ _ _ h => h) (Or.inl ⟨by rfl, ?_⟩) (by assumption) ?_
        rotate_left
        · (intro w hSw; (try dsimp only at hSw); go_simp; try (with_reducible rfl))
        try simp only [Act.put, List.getElem_toArray, List.getElem_cons_zero, List.getElem_cons_succ, List.setIfInBounds_toArray, List.set_cons_zero, List.set_cons_succ]
        refine wpAnyH_take (i := 6) (v := ?_) rfl (by kernel_rfl) (by kernel_rfl) (by kernel_rfl) (fun _ _ _ h => h) (Or.inl ⟨by rfl, ?_⟩) (by assumption) ?_
        rotate_left
        · (intro w hSw; (try dsimp only at hSw); go_simp; try (with_reducible rfl))
        try simp only [Act.put, List.getElem_toArray, List.getElem_cons_zero, List.getElem_cons_succ, List.setIfInBounds_toArray, List.set_cons_zero, List.set_cons_succ]
        refine wpAnyH_take (i := 7) (v := ?_) rfl (by kernel_rfl) (by kernel_rfl) (by kernel_rfl) (fun _ _ _ h => h) (Or.inl ⟨by rfl, ?_⟩) (by assumption) ?_
        rotate_left
        · (intro w hSw; (try dsimp only at hSw); go_simp; try (with_reducible rfl))
        try simp only [Act.put, List.getElem_toArray, List.getElem_cons_zero, List.getElem_cons_succ, List.setIfInBounds_toArray, List.set_cons_zero, List.set_cons_succ]
        refine wpAnyH_take (i := 8) (v := ?_) rfl (by kernel_rfl) (by kernel_rfl) (by kernel_rfl) (fun _ _ _ h => h) (Or.inl ⟨by rfl, ?_⟩) (by assumption) ?_
        rotate_left
        · (intro w hSw; (try dsimp only at hSw); go_simp; try (with_reducible rfl))
        try simp only [Act.put, List.getElem_toArray, List.getElem_cons_zero, List.getElem_cons_succ, List.setIfInBounds_toArray, List.set_cons_zero, List.set_cons_succ]
        refine wpAnyH_take (i := 9) (v := ?_) rfl (by kernel_rfl) (by kernel_rfl) (by kernel_rfl) (fun _ _ _ h => h) (Or.inl ⟨by rfl, ?_⟩) (by assumption) ?_
        rotate_left
        · (intro w hSw; (try dsimp only at hSw); go_simp; try (with_reducible rfl))
        try simp only [Act.put, List.getElem_toArray, List.getElem_cons_zero, List.getElem_cons_succ, List.setIfInBounds_toArray, List.set_cons_zero, List.set_cons_succ]
        refine wpAnyH_ready (rs := [4]) (by kernel_rfl) (by simp) ?_
        refine (AllReadyH.cons rfl (fun K hK => ?_) AllReadyH.nil)
        · refine step_call rfl 42 #[.agg #[.string T, .int .i64 tq]] (by simp [go_sem]) (HWR.out _) ?_
          rintro e w6 ⟨rfl, hex6⟩
          refine ⟨_, rfl, ?_⟩
          have HEX6 := hide hex6
          have y0 : w6.cell? ⟨r0, 0, none⟩ = some (.int .i64 0) := hex6.cell (fun e => e) (by simp [go_sem, d0, d1])
          have y1 : w6.cell? ⟨r0, 1, none⟩ = some (.slice none 0 0) := hex6.cell (fun e => e) (by simp [go_sem, d0, d1])
          have yf : ∀ j, w6.frozen? ⟨r0, j, none⟩ = false := fun j => (hex6.frozen (fun e => e) (by simp [go_sem]; exact hr0W)).trans (by simp [go_sem, df])
          clear hex6
          refine hK.out _ _ ?_ (fun hHeld => ?_)
          · first | exact hHeld | exact ⟨HEX6.out.cell (fun e => e) hHeld.1, HEX6.out.cell (fun e => e) hHeld.2⟩ | (simp [go_sem, hHeld.1, hHeld.2, hgr0, d0, d1, y0, y1]; done) | (simp [go_sem, hHeld.1, hHeld.2, hgr0, d0, d1]; done)
          clear hK K
          try simp only [Act.put, List.getElem_toArray, List.getElem_cons_zero, List.getElem_cons_succ, List.setIfInBounds_toArray, List.set_cons_zero, List.set_cons_succ]
          refine wpAnyH_take (i := 5) (v := ?_) rfl (by kernel_rfl) (by kernel_rfl) (by kernel_rfl) (fun _ _ _ h => h) (Or.inl ⟨by rfl, ?_⟩) (by assumption) ?_
          rotate_left
          · (intro w hSw; (try dsimp only at hSw); (have hfl := Try.fld109 w we tq); go_simp; try (with_reducible rfl))
          try simp only [Act.put, List.getElem_toArray, List.getElem_cons_zero, List.getElem_cons_succ, List.setIfInBounds_toArray, List.set_cons_zero, List.set_cons_succ]
          refine wpAnyH_ready (rs := [10]) (by kernel_rfl) (by simp) ?_
          refine (AllReadyH.cons rfl (fun K hK => ?_) AllReadyH.nil)
          · go_simp
            refine hK.out _ _ ?_ (fun hHeld => ?_)
            · first | exact hHeld | exact ⟨HEX6.out.cell (fun e => e) hHeld.1, HEX6.out.cell (fun e => e) hHeld.2⟩ | (simp [go_sem, hHeld.1, hHeld.2, hgr0, d0, d1, y0, y1]; done) | (simp [go_sem, hHeld.1, hHeld.2, hgr0, d0, d1]; done)
            clear hK K
            try simp only [Act.put, List.getElem_toArray, List.getElem_cons_zero, List.getElem_cons_succ, List.setIfInBounds_toArray, List.set_cons_zero, List.set_cons_succ]
            refine wpAnyH_take (i := 11) (v := ?_) rfl (by kernel_rfl) (by kernel_rfl) (by kernel_rfl) (fun _ _ _ h => h) (Or.inl ⟨by rfl, ?_⟩) (by assumption) ?_
            rotate_left
            · (intro w hSw; (try dsimp only at hSw); go_simp; try (with_reducible rfl))
            try simp only [Act.put, List.getElem_toArray, List.getElem_cons_zero, List.getElem_cons_succ, List.setIfInBounds_toArray, List.set_cons_zero, List.set_cons_succ]
            refine wpAnyH_take (i := 12) (v := ?_) rfl (by kernel_rfl) (by kernel_rfl) (by kernel_rfl) (fun _ _ _ h => h) (Or.inl ⟨by rfl, ?_⟩) (by assumption) ?_
            rotate_left
            · (intro w hSw; (try dsimp only at hSw); go_simp; try (with_reducible rfl))
            try simp only [Act.put, List.getElem_toArray, List.getElem_cons_zero, List.getElem_cons_succ, List.setIfInBounds_toArray, List.set_cons_zero, List.set_cons_succ]
            refine wpAnyH_done (by kernel_rfl) ?_ _
            clear hHeld
            go_wp2_with (with_reducible refine bodyPost_ret (v := .tuple #[.agg #[.int .i64 0, .slice none 0 0], .int .i64 we, .int .i64 tq]) ?hr ?hd ?hp)
            case hr => simp [results, Try.results24, go_sem, y0, y1]
            case hd => rfl
            case hp =>
              rw [HRES.out]
              refine ⟨.slice none 0 0, rfl, ?_, World.ownsRow_nil _ _ _ _⟩
              first
                | exact ((HE.out.drew.trans HEX6.out).setNew hr0n _).setNew hr0n _
                | exact ((HE.out.drew.setNew hr0n _).setNew hr0n _).trans HEX6.out
                | exact (((HE.out.setNew hr0n _).setNew hr0n _).drew).trans HEX6.out
    · have hzb : (ue == 0) = false := by simpa using hz
      rw [if_neg hz] at HPR hta
      subst hta
      have HEF : Hid (Ex (fun _ => False) w ((W5.setCell ⟨r0, 0, none⟩ (.int .i64 0)).setCell ⟨r0, 1, none⟩ (.slice none 0 0)).drew) := ((HE5.out.setNew hr0n _).setNew hr0n _).drew
      go_upto_region 7 with fail
      go_region
      go_wp2_with (with_reducible refine bodyPost_ret (v := .tuple #[.agg #[.int .i64 0, .slice none 0 0], .int .i64 ue, .int .i64 tq]) ?hr ?hd ?hp)
      case hr => simp [results, Try.results24, go_sem, d0, d1]
      case hd => rfl
      case hp =>
        rw [HPR.out]
        exact ⟨.slice none 0 0, rfl, HEF.out, World.ownsRow_nil _ _ _ _⟩
  · rw [if_neg k0] at HPR
    have hcmp : (T.toList == [98, 97, 116, 99, 104]) = false := by rw [str_eq, hts]; exact beq_eq_false_iff_ne.2 k0
    have HWR := hide (fun V => wrong_any V T x.t tq hts htl)
    obtain ⟨we, hwe⟩ : ∃ e, wrE x.t = e := ⟨_, rfl⟩
    rw [hwe] at HPR HWR
    have HRES := HPR
    clear k0 hwe hT htq hts htl hx
    go_upto_region 4 with fail
    clear hcmp
    refine wp_region_held_drew (S := fun w' => w'.cell? ⟨g, 0, none⟩ = some (.string T) ∧ w'.cell? ⟨g, 1, none⟩ = some (.int .i64 tq)) (by kernel_rfl) (And.intro x0 x1) (fun hHeld => ?_)
    refine wpAnyH_take (i := 0) (v := ?_) rfl (by kernel_rfl) (by kernel_rfl) (by kernel_rfl) (fun _ _ _ h => h) (Or.inl ⟨by rfl, ?_⟩) (by assumption) ?_
    rotate_left
    · (intro w hSw; (try dsimp only at hSw); go_simp; try (with_reducible rfl))
    try simp only [Act.put, List.getElem_toArray, List.getElem_cons_zero, List.getElem_cons_succ, List.setIfInBounds_toArray, List.set_cons_zero, List.set_cons_succ]
    refine wpAnyH_take (i := 1) (v := ?_) rfl (by kernel_rfl) (by kernel_rfl) (by kernel_rfl) (fun _ _ _ h => h) (Or.inl ⟨by rfl, ?_⟩) (by assumption) ?_
    rotate_left
    · (intro w hSw; (try dsimp only at hSw); go_simp; try (with_reducible rfl))
    try simp only [Act.put, List.getElem_toArray, List.getElem_cons_zero, List.getElem_cons_succ, List.setIfInBounds_toArray, List.set_cons_zero, List.set_cons_succ]
    refine wpAnyH_take (i := 2) (v := ?_) rfl (by kernel_rfl) (by kernel_rfl) (by kernel_rfl) (fun _ _ _ h => h) (Or.inl ⟨by rfl, ?_⟩) (by assumption) ?_
    rotate_left
    · (intro w hSw; (try dsimp only at hSw); go_simp; try (with_reducible rfl))
    try simp only [Act.put, List.getElem_toArray, List.getElem_cons_zero, List.getElem_cons_succ, List.setIfInBounds_toArray, List.set_cons_zero, List.set_cons_succ]
    refine wpAnyH_take (i := 3) (v := ?_) rfl (by kernel_rfl) (by kernel_rfl) (by kernel_rfl) (fun _ _ _ h => h) (Or.inl ⟨by rfl, ?_⟩) (by assumption) ?_
    rotate_left
    · (intro w hSw; (try dsimp only at hSw); go_simp; try (with_reducible rfl))
    try simp only [Act.put, List.getElem_toArray, List.getElem_cons_zero, List.getElem_cons_succ, List.setIfInBounds_toArray, List.set_cons_zero, List.set_cons_succ]
    refine wpAnyH_take (i := 6) (v := ?_) rfl (by kernel_rfl) (by kernel_rfl) (by kernel_rfl) (fun _ _ _ h => h) (Or.inl ⟨by rfl, ?_⟩) (by assumption) ?_
    rotate_left
    · (intro w hSw; (try dsimp only at hSw); go_simp; try (with_reducible rfl))
    try simp only [Act.put, List.getElem_toArray, List.getElem_cons_zero, List.getElem_cons_succ, List.setIfInBounds_toArray, List.set_cons_zero, List.set_cons_succ]
    refine wpAnyH_take (i := 7) (v := ?_) rfl (by kernel_rfl) (by kernel_rfl) (by kernel_rfl) (fun _ _ _ h => h) (Or.inl ⟨by rfl, ?_⟩) (by assumption) ?_
    rotate_left
    · (intro w hSw; (try dsimp only at hSw); go_simp; try (with_reducible rfl))
    try simp only [Act.put, List.getElem_toArray, List.getElem_cons_zero, List.getElem_cons_succ, List.setIfInBounds_toArray, List.set_cons_zero, List.set_cons_succ]
    refine wpAnyH_take (i := 8) (v := ?_) rfl (by kernel_rfl) (by kernel_rfl) (by kernel_rfl) (fun _ _ _ h => h) (Or.inl ⟨by rfl, ?_⟩) (by assumption) ?_
    rotate_left
    · (intro w hSw; (try dsimp only at hSw); go_simp; try (with_reducible rfl))
    try simp only [Act.put, List.getElem_toArray, List.getElem_cons_zero, List.getElem_cons_succ, List.setIfInBounds_toArray, List.set_cons_zero, List.set_cons_succ]
    refine wpAnyH_take (i := 9) (v := ?_) rfl (by kernel_rfl) (by kernel_rfl) (by kernel_rfl) (fun _ _ _ h => h) (Or.inl ⟨by rfl, ?_⟩) (by assumption) ?_
    rotate_left
    · (intro w hSw; (try dsimp only at hSw); go_simp; try (with_reducible rfl))
    try simp only [Act.put, List.getElem_toArray, List.getElem_cons_zero, List.getElem_cons_succ, List.setIfInBounds_toArray, List.set_cons_zero, List.set_cons_succ]
    refine wpAnyH_ready (rs := [4]) (by kernel_rfl) (by simp) ?_
    refine (AllReadyH.cons rfl (fun K hK => ?_) AllReadyH.nil)
    · refine step_call rfl 42 #[.agg #[.string T, .int .i64 tq]] (by simp [go_sem]) (HWR.out _) ?_
      rintro e w6 ⟨rfl, hex6⟩
      refine ⟨_, rfl, ?_⟩
      have HEX6 := hide hex6
      have y0 : w6.cell? ⟨r0, 0, none⟩ = some (.int .i64 0) := hex6.cell (fun e => e) (by simp [go_sem, d0, d1])
      have y1 : w6.cell? ⟨r0, 1, none⟩ = some (.slice none 0 0) := hex6.cell (fun e => e) (by simp [go_sem, d0, d1])
      have yf : ∀ j, w6.frozen? ⟨r0, j, none⟩ = false := fun j => (hex6.frozen (fun e => e) (by simp [go_sem]; exact hr0W)).trans (by simp [go_sem, df])
      clear hex6
      refine hK.out _ _ ?_ (fun hHeld => ?_)
      · first | exact hHeld | exact ⟨HEX6.out.cell (fun e => e) hHeld.1, HEX6.out.cell (fun e => e) hHeld.2⟩ | (simp [go_sem, hHeld.1, hHeld.2, hgr0, d0, d1, y0, y1]; done) | (simp [go_sem, hHeld.1, hHeld.2, hgr0, d0, d1]; done)
      clear hK K
      try simp only [Act.put, List.getElem_toArray, List.getElem_cons_zero, List.getElem_cons_succ, List.setIfInBounds_toArray, List.set_cons_zero, List.set_cons_succ]
      refine wpAnyH_take (i := 5) (v := ?_) rfl (by kernel_rfl) (by kernel_rfl) (by kernel_rfl) (fun _ _ _ h => h) (Or.inl ⟨by rfl, ?_⟩) (by assumption) ?_
      rotate_left
      · (intro w hSw; (try dsimp only at hSw); (have hfl := Try.fld109 w we tq); go_simp; try (with_reducible rfl))
      try simp only [Act.put, List.getElem_toArray, List.getElem_cons_zero, List.getElem_cons_succ, List.setIfInBounds_toArray, List.set_cons_zero, List.set_cons_succ]
      refine wpAnyH_ready (rs := [10]) (by kernel_rfl) (by simp) ?_
      refine (AllReadyH.cons rfl (fun K hK => ?_) AllReadyH.nil)
      · go_simp
        refine hK.out _ _ ?_ (fun hHeld => ?_)
        · first | exact hHeld | exact ⟨HEX6.out.cell (fun e => e) hHeld.1, HEX6.out.cell (fun e => e) hHeld.2⟩ | (simp [go_sem, hHeld.1, hHeld.2, hgr0, d0, d1, y0, y1]; done) | (simp [go_sem, hHeld.1, hHeld.2, hgr0, d0, d1]; done)
        clear hK K
        try simp only [Act.put, List.getElem_toArray, List.getElem_cons_zero, List.getElem_cons_succ, List.setIfInBounds_toArray, List.set_cons_zero, List.set_cons_succ]
        refine wpAnyH_take (i := 11) (v := ?_) rfl (by kernel_rfl) (by kernel_rfl) (by kernel_rfl) (fun _ _ _ h => h) (Or.inl ⟨by rfl, ?_⟩) (by assumption) ?_
        rotate_left
        · (intro w hSw; (try dsimp only at hSw); go_simp; try (with_reducible rfl))
        try simp only [Act.put, List.getElem_toArray, List.getElem_cons_zero, List.getElem_cons_succ, List.setIfInBounds_toArray, List.set_cons_zero, List.set_cons_succ]
        refine wpAnyH_take (i := 12) (v := ?_) rfl (by kernel_rfl) (by kernel_rfl) (by kernel_rfl) (fun _ _ _ h => h) (Or.inl ⟨by rfl, ?_⟩) (by assumption) ?_
        rotate_left
        · (intro w hSw; (try dsimp only at hSw); go_simp; try (with_reducible rfl))
        try simp only [Act.put, List.getElem_toArray, List.getElem_cons_zero, List.getElem_cons_succ, List.setIfInBounds_toArray, List.set_cons_zero, List.set_cons_succ]
        refine wpAnyH_done (by kernel_rfl) ?_ _
        clear hHeld
        go_wp2_with (with_reducible refine bodyPost_ret (v := .tuple #[.agg #[.int .i64 0, .slice none 0 0], .int .i64 we, .int .i64 tq]) ?hr ?hd ?hp)
        case hr => simp [results, Try.results24, go_sem, y0, y1]
        case hd => rfl
        case hp =>
          rw [HRES.out]
          refine ⟨.slice none 0 0, rfl, ?_, World.ownsRow_nil _ _ _ _⟩
          first
            | exact ((HE.out.drew.trans HEX6.out).setNew hr0n _).setNew hr0n _
            | exact ((HE.out.drew.setNew hr0n _).setNew hr0n _).trans HEX6.out
            | exact (((HE.out.setNew hr0n _).setNew hr0n _).drew).trans HEX6.out
end Go.Proofs.Qxb6500778a
