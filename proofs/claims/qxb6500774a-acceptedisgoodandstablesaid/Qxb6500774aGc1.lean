import Derived.Test.Qxb6500774aGc0
namespace Go.Proofs.Qxb6500774a
open Go.RowKit
set_option linter.unusedVariables false
set_option linter.unusedSimpArgs false

set_option linter.unusedSimpArgs false in
set_option linter.unusedVariables false in
set_option maxRecDepth 100000 in
set_option maxHeartbeats 32000000 in
theorem good_st (f : SP) (XS : List XP) (AS : List (XP × SLc)) (GS CS : List (ByteArray × XP)) (w : World)
    (hx : RW w ND (XS.map xL) f.ex) (ha : RW w ND (AS.map aL) f.ar) (hg : RW w ND (GS.map gL) f.ag) (hc : RW w ND (CS.map gL) f.co)
    (hcx : ∀ (i : Nat) y, XS[i]? = some y → ∀ W, Ex (fun _ => False) w W → Calls Try.prog 27 #[xV y] W (RdB W true))
    (hca : ∀ (i : Nat) y, AS[i]? = some y → (∀ W, Ex (fun _ => False) w W → Calls Try.prog 27 #[xV y.1] W (RdB W true)) ∧ ∀ W, Ex (fun _ => False) w W → Calls Try.prog 28 #[slV y.2] W (RdB W true))
    (hcg : ∀ (i : Nat) y, GS[i]? = some y → gN y.1 = true ∧ y.1.size ≤ 4611686018427387904 ∧ ∀ W, Ex (fun _ => False) w W → Calls Try.prog 27 #[xV y.2] W (RdB W true))
    (hcc : ∀ (i : Nat) y, CS[i]? = some y → (y.1 = nb ∨ y.1 = bNOT ∨ y.1 = bSET ∨ y.1 = bRES) ∧ (∀ W, Ex (fun _ => False) w W → Calls Try.prog 27 #[xV y.2] W (RdB W true)) ∧ (decide (y.2.k = 3) || decide (y.2.k = 4) || decide (y.2.k = 5)) = true)
    (hel : ∀ W, Ex (fun _ => False) w W → Calls Try.prog 28 #[slV f.el] W (RdB W true)) (hbo : ∀ W, Ex (fun _ => False) w W → Calls Try.prog 28 #[slV f.bo] W (RdB W true)) (hgk : GK f XS) :
    Calls Try.prog 66 #[spV f] w (RdB w true) := by
  have HRex := hide hx
  have HRar := hide ha
  have HRag := hide hg
  have HRco := hide hc
  have HCX := hide hcx
  have HCA := hide hca
  have HCG := hide hcg
  have HCC := hide hcc
  have HEL := hide hel
  have HBO := hide hbo
  have HGK := hide hgk
  clear hx ha hg hc hcx hca hcg hcc hel hbo hgk
  have ex1 : Ex (fun _ => False) w (w.alloc (spO f)) := (Ex.refl _ _).alloc _
  have HE := hide ex1
  have HK := hide (SK.new w f)
  obtain ⟨w1, hw1⟩ : ∃ x, w.alloc (spO f) = x := ⟨_, rfl⟩
  rw [hw1] at HE HK
  have HW1 := hide hw1
  unfold spO at HW1
  clear hw1 ex1
  unfold spV
  have HX0 : Hid (Ex (fun _ => False) w1 w1) := Ex.refl _ _
  go_enter Try.func66, Try.ntmps66
  go_upto_region 1 with fail
  rw [HW1.out]
  generalize w.heap.size = r1 at *
  clear HW1
  have k2 := HK.out.c2
  go_upto_region 2 with fail
  clear k2
  obtain ⟨nx, hnx⟩ : ∃ n, f.ex.n = n := ⟨_, rfl⟩
  have HNnx := hide hnx
  rw [hnx]
  clear hnx
  go_loopw [20] (fun s20 wr => ∃ (k : Nat), k ≤ nx ∧ s20 = .int .i64 k ∧ Ex (fun _ => False) w1 wr) (fun s20 _ => nx - (intOf s20).toNat)
  case atStart => exact ⟨0, Nat.zero_le _, rfl, HX0.out⟩
  case round =>
    clear HX0
    obtain ⟨k, hk, rfl, hex⟩ := hrel
    have HX := hide hex
    clear hex
    by_cases hlt : k < nx
    · have d1 : decide ((k : Int) < (nx : Int)) = true := decide_eq_true (by omega)
      have d1n : decide (k < nx) = true := decide_eq_true hlt
      have HRL := hide HRex.out.len
      have hwk : IntKind.i64.wrap ((k : Int) + 1) = ((k + 1 : Nat) : Int) := wrk (by have := HRL.out.2; rw [HNnx.out] at this; unfold maxLen at this; omega)
      obtain ⟨y, hy⟩ : ∃ y, XS[k]? = some y := ⟨_, List.getElem?_eq_getElem (by rw [← HRL.out.1, HNnx.out]; exact hlt)⟩
      obtain ⟨g, hq, _, _⟩ := HRex.out.2.2 (show 0 < f.ex.n by rw [HNnx.out]; omega)
      rw [hq]
      have HRk := hide (RW.row (L := XS) (F := xL) (g := g) (n := f.ex.n) (c := f.ex.c) (by rw [← hq]; exact HRex.out.low (HE.out.trans HX.out)) hy)
      have e0 := HRk.out.1.at (xL_len XS) HRk.out.2 (j := 0) (by decide) (v := .int .i64 y.k) rfl
      have e1 := HRk.out.1.at (xL_len XS) HRk.out.2 (j := 1) (by decide) (v := .string y.x) rfl
      have e2 := HRk.out.1.at (xL_len XS) HRk.out.2 (j := 2) (by decide) (v := .int .i64 y.n) rfl
      have e3 := HRk.out.1.at (xL_len XS) HRk.out.2 (j := 3) (by decide) (v := .string y.m) rfl
      have e4 := HRk.out.1.at (xL_len XS) HRk.out.2 (j := 4) (by decide) (v := .slice y.q y.ql y.qc) rfl
      have e5 := HRk.out.1.at (xL_len XS) HRk.out.2 (j := 5) (by decide) (v := .int .i64 y.li) rfl
      have e6 := HRk.out.1.at (xL_len XS) HRk.out.2 (j := 6) (by decide) (v := .int .i64 y.co) rfl
      rw [Nat.add_zero] at e0
      have HCk := hide (HCX.out k y hy)
      have ex2 : Ex (fun _ => False) wr (wr.alloc (xO y)) := (Ex.refl _ _).alloc _
      have HE2 := hide (HX.out.trans ex2)
      have HB2 := hide (XK.new wr y)
      clear hy hq ex2 HX HRk HRL
      obtain ⟨w2, hw2⟩ : ∃ x, wr.alloc (xO y) = x := ⟨_, rfl⟩
      rw [hw2] at HE2 HB2
      have HW2 := hide hw2
      unfold xO at HW2
      clear hw2
      go_upto_region 4 with fail
      rw [HW2.out]
      clear HW2 e0 e1 e2 e3 e4 e5 e6
      generalize wr.heap.size = r4 at *
      have t0 := HB2.out.c0
      have t1 := HB2.out.c1
      have t2 := HB2.out.c2
      have t3 := HB2.out.c3
      have t4 := HB2.out.c4
      have t5 := HB2.out.c5
      have t6 := HB2.out.c6
      have HCW := hide (HCk.out w2 (HE.out.trans HE2.out))
      unfold xV at HCW
      go_wp2_with (go_at_call 27; refine HCW.out.mono ?_; rintro e9 w3 ⟨rfl, hex3⟩; have HE3 := hide (HE2.out.trans hex3); clear hex3 HE2 HB2 t0 t1 t2 t3 t4 t5 t6 HCW; simp only [])
      go_roundw
      case rel => exact ⟨k + 1, by omega, by go_num, HE3.out⟩
      case measure => simp [intOf]; omega
    · obtain rfl : k = nx := by omega
      have d1 : decide ((k : Int) < (k : Int)) = false := decide_eq_false (by omega)
      have HX1 := hide HX.out
      clear HX hk hlt
      have k3 := (HK.out.keep HX1.out (fun z => z)).c3
      go_upto_region 8 with fail
      clear k3
      obtain ⟨na, hna⟩ : ∃ n, f.ar.n = n := ⟨_, rfl⟩
      have HNna := hide hna
      rw [hna]
      clear hna
      go_loopw [31] (fun s31 wr => ∃ (k : Nat), k ≤ na ∧ s31 = .int .i64 k ∧ Ex (fun _ => False) w1 wr) (fun s31 _ => na - (intOf s31).toNat)
      case atStart => exact ⟨0, Nat.zero_le _, rfl, HX1.out⟩
      case round =>
        clear HX1
        obtain ⟨k, hk, rfl, hex⟩ := hrel
        have HX := hide hex
        clear hex
        by_cases hlt : k < na
        · have d1 : decide ((k : Int) < (na : Int)) = true := decide_eq_true (by omega)
          have d1n : decide (k < na) = true := decide_eq_true hlt
          have HRL := hide HRar.out.len
          have hwk : IntKind.i64.wrap ((k : Int) + 1) = ((k + 1 : Nat) : Int) := wrk (by have := HRL.out.2; rw [HNna.out] at this; unfold maxLen at this; omega)
          obtain ⟨y, hy⟩ : ∃ y, AS[k]? = some y := ⟨_, List.getElem?_eq_getElem (by rw [← HRL.out.1, HNna.out]; exact hlt)⟩
          obtain ⟨g, hq, _, _⟩ := HRar.out.2.2 (show 0 < f.ar.n by rw [HNna.out]; omega)
          rw [hq]
          have HRk := hide (RW.row (L := AS) (F := aL) (g := g) (n := f.ar.n) (c := f.ar.c) (by rw [← hq]; exact HRar.out.low (HE.out.trans HX.out)) hy)
          have e0 := HRk.out.1.at (aL_len AS) HRk.out.2 (j := 0) (by decide) (v := .int .i64 y.1.k) rfl
          have e1 := HRk.out.1.at (aL_len AS) HRk.out.2 (j := 1) (by decide) (v := .string y.1.x) rfl
          have e2 := HRk.out.1.at (aL_len AS) HRk.out.2 (j := 2) (by decide) (v := .int .i64 y.1.n) rfl
          have e3 := HRk.out.1.at (aL_len AS) HRk.out.2 (j := 3) (by decide) (v := .string y.1.m) rfl
          have e4 := HRk.out.1.at (aL_len AS) HRk.out.2 (j := 4) (by decide) (v := .slice y.1.q y.1.ql y.1.qc) rfl
          have e5 := HRk.out.1.at (aL_len AS) HRk.out.2 (j := 5) (by decide) (v := .int .i64 y.1.li) rfl
          have e6 := HRk.out.1.at (aL_len AS) HRk.out.2 (j := 6) (by decide) (v := .int .i64 y.1.co) rfl
          have e7 := HRk.out.1.at (aL_len AS) HRk.out.2 (j := 7) (by decide) (v := .slice y.2.q y.2.n y.2.c) rfl
          rw [Nat.add_zero] at e0
          have HCk := hide (HCA.out k y hy)
          have ex2 : Ex (fun _ => False) wr (wr.alloc (aO y)) := (Ex.refl _ _).alloc _
          have HE2 := hide (HX.out.trans ex2)
          have HB2 := hide (aO_new wr y)
          clear hy hq ex2 HX HRk HRL
          obtain ⟨w2, hw2⟩ : ∃ x, wr.alloc (aO y) = x := ⟨_, rfl⟩
          rw [hw2] at HE2 HB2
          have HW2 := hide hw2
          unfold aO at HW2
          clear hw2
          go_upto_region 10 with fail
          rw [HW2.out]
          clear HW2 e0 e1 e2 e3 e4 e5 e6 e7
          generalize wr.heap.size = r4 at *
          have t0 := HB2.out 0 (.int .i64 y.1.k) rfl
          have t1 := HB2.out 1 (.string y.1.x) rfl
          have t2 := HB2.out 2 (.int .i64 y.1.n) rfl
          have t3 := HB2.out 3 (.string y.1.m) rfl
          have t4 := HB2.out 4 (.slice y.1.q y.1.ql y.1.qc) rfl
          have t5 := HB2.out 5 (.int .i64 y.1.li) rfl
          have t6 := HB2.out 6 (.int .i64 y.1.co) rfl
          have t7 := HB2.out 7 (.slice y.2.q y.2.n y.2.c) rfl
          have HCW := hide (HCk.out.1 w2 (HE.out.trans HE2.out))
          have HCL := hide HCk.out.2
          unfold xV at HCW
          unfold slV at HCL
          go_wp2_with (first | (go_at_call 27; refine HCW.out.mono ?_; rintro e9 w3 ⟨rfl, hex3⟩; have HE3 := hide (HE2.out.trans hex3); have t7 := hex3.cell (fun z => z) t7; clear hex3 HE2 HB2 t0 t1 t2 t3 t4 t5 t6 HCW; simp only []) | (go_at_call 28; refine (HCL.out _ (HE.out.trans HE3.out)).mono ?_; rintro e9 w4 ⟨rfl, hex4⟩; have HE4 := hide (HE3.out.trans hex4); clear hex4 HE3 HCL; simp only []))
          go_roundw
          case rel => exact ⟨k + 1, by omega, by go_num, HE4.out⟩
          case measure => simp [intOf]; omega
        · obtain rfl : k = na := by omega
          have d1 : decide ((k : Int) < (k : Int)) = false := decide_eq_false (by omega)
          have HX2 := hide HX.out
          clear HX hk hlt
          have k6 := (HK.out.keep HX2.out (fun z => z)).c6
          go_upto_region 14 with fail
          clear k6
          obtain ⟨ng, hng⟩ : ∃ n, f.ag.n = n := ⟨_, rfl⟩
          have HNng := hide hng
          rw [hng]
          clear hng
          go_loopw [49] (fun s49 wr => ∃ (k : Nat), k ≤ ng ∧ s49 = .int .i64 k ∧ Ex (fun _ => False) w1 wr) (fun s49 _ => ng - (intOf s49).toNat)
          case atStart => exact ⟨0, Nat.zero_le _, rfl, HX2.out⟩
          case round =>
            clear HX2
            obtain ⟨k, hk, rfl, hex⟩ := hrel
            have HX := hide hex
            clear hex
            by_cases hlt : k < ng
            · have d1 : decide ((k : Int) < (ng : Int)) = true := decide_eq_true (by omega)
              have d1n : decide (k < ng) = true := decide_eq_true hlt
              have HRL := hide HRag.out.len
              have hwk : IntKind.i64.wrap ((k : Int) + 1) = ((k + 1 : Nat) : Int) := wrk (by have := HRL.out.2; rw [HNng.out] at this; unfold maxLen at this; omega)
              obtain ⟨y, hy⟩ : ∃ y, GS[k]? = some y := ⟨_, List.getElem?_eq_getElem (by rw [← HRL.out.1, HNng.out]; exact hlt)⟩
              obtain ⟨g, hq, _, _⟩ := HRag.out.2.2 (show 0 < f.ag.n by rw [HNng.out]; omega)
              rw [hq]
              have HRk := hide (RW.row (L := GS) (F := gL) (g := g) (n := f.ag.n) (c := f.ag.c) (by rw [← hq]; exact HRag.out.low (HE.out.trans HX.out)) hy)
              have e0 := HRk.out.1.at (gL_len GS) HRk.out.2 (j := 0) (by decide) (v := .string y.1) rfl
              have e1 := HRk.out.1.at (gL_len GS) HRk.out.2 (j := 1) (by decide) (v := .int .i64 y.2.k) rfl
              have e2 := HRk.out.1.at (gL_len GS) HRk.out.2 (j := 2) (by decide) (v := .string y.2.x) rfl
              have e3 := HRk.out.1.at (gL_len GS) HRk.out.2 (j := 3) (by decide) (v := .int .i64 y.2.n) rfl
              have e4 := HRk.out.1.at (gL_len GS) HRk.out.2 (j := 4) (by decide) (v := .string y.2.m) rfl
              have e5 := HRk.out.1.at (gL_len GS) HRk.out.2 (j := 5) (by decide) (v := .slice y.2.q y.2.ql y.2.qc) rfl
              have e6 := HRk.out.1.at (gL_len GS) HRk.out.2 (j := 6) (by decide) (v := .int .i64 y.2.li) rfl
              have e7 := HRk.out.1.at (gL_len GS) HRk.out.2 (j := 7) (by decide) (v := .int .i64 y.2.co) rfl
              rw [Nat.add_zero] at e0
              have HCk := hide (HCG.out k y hy)
              have ex2 : Ex (fun _ => False) wr (wr.alloc (gO 115 y)) := (Ex.refl _ _).alloc _
              have HE2 := hide (HX.out.trans ex2)
              have HB2 := hide (gO_new wr 115 y)
              clear hy hq ex2 HX HRk HRL
              obtain ⟨w2, hw2⟩ : ∃ x, wr.alloc (gO 115 y) = x := ⟨_, rfl⟩
              rw [hw2] at HE2 HB2
              have HW2 := hide hw2
              unfold gO at HW2
              clear hw2
              go_upto_region 16 with fail
              rw [HW2.out]
              clear HW2 e0 e1 e2 e3 e4 e5 e6 e7
              generalize wr.heap.size = r4 at *
              have t0 := HB2.out 0 (.string y.1) rfl
              have t1 := HB2.out 1 (.int .i64 y.2.k) rfl
              have t2 := HB2.out 2 (.string y.2.x) rfl
              have t3 := HB2.out 3 (.int .i64 y.2.n) rfl
              have t4 := HB2.out 4 (.string y.2.m) rfl
              have t5 := HB2.out 5 (.slice y.2.q y.2.ql y.2.qc) rfl
              have t6 := HB2.out 6 (.int .i64 y.2.li) rfl
              have t7 := HB2.out 7 (.int .i64 y.2.co) rfl
              have HCW := hide HCk.out.2.2
              have HGN := hide (fun W => goodName_yes W y.1 HCk.out.1 HCk.out.2.1)
              unfold xV at HCW
              go_wp2_with (first | (go_at_call 26; refine (HGN.out _).mono ?_; rintro e9 w3 ⟨rfl, hw9⟩; (have hw9' := hw9.symm; subst hw9'); simp only []) | (go_at_call 27; refine (HCW.out _ (HE.out.trans HE2.out)).mono ?_; rintro e9 w4 ⟨rfl, hex4⟩; have HE4 := hide (HE2.out.trans hex4); clear hex4 HE2 HCW; simp only []))
              go_roundw
              case rel => exact ⟨k + 1, by omega, by go_num, HE4.out⟩
              case measure => simp [intOf]; omega
            · obtain rfl : k = ng := by omega
              have d1 : decide ((k : Int) < (k : Int)) = false := decide_eq_false (by omega)
              have HX3 := hide HX.out
              clear HX hk hlt
              have k7 := (HK.out.keep HX3.out (fun z => z)).c7
              go_upto_region 20 with fail
              clear k7
              obtain ⟨nc, hnc⟩ : ∃ n, f.co.n = n := ⟨_, rfl⟩
              have HNnc := hide hnc
              rw [hnc]
              clear hnc
              go_loopw [67] (fun s67 wr => ∃ (k : Nat), k ≤ nc ∧ s67 = .int .i64 k ∧ Ex (fun _ => False) w1 wr) (fun s67 _ => nc - (intOf s67).toNat)
              case atStart => exact ⟨0, Nat.zero_le _, rfl, HX3.out⟩
              case round =>
                clear HX3
                obtain ⟨k, hk, rfl, hex⟩ := hrel
                have HX := hide hex
                clear hex
                by_cases hlt : k < nc
                · have d1 : decide ((k : Int) < (nc : Int)) = true := decide_eq_true (by omega)
                  have d1n : decide (k < nc) = true := decide_eq_true hlt
                  have HRL := hide HRco.out.len
                  have hwk : IntKind.i64.wrap ((k : Int) + 1) = ((k + 1 : Nat) : Int) := wrk (by have := HRL.out.2; rw [HNnc.out] at this; unfold maxLen at this; omega)
                  obtain ⟨y, hy⟩ : ∃ y, CS[k]? = some y := ⟨_, List.getElem?_eq_getElem (by rw [← HRL.out.1, HNnc.out]; exact hlt)⟩
                  obtain ⟨g, hq, _, _⟩ := HRco.out.2.2 (show 0 < f.co.n by rw [HNnc.out]; omega)
                  rw [hq]
                  have HRk := hide (RW.row (L := CS) (F := gL) (g := g) (n := f.co.n) (c := f.co.c) (by rw [← hq]; exact HRco.out.low (HE.out.trans HX.out)) hy)
                  have e0 := HRk.out.1.at (gL_len CS) HRk.out.2 (j := 0) (by decide) (v := .string y.1) rfl
                  have e1 := HRk.out.1.at (gL_len CS) HRk.out.2 (j := 1) (by decide) (v := .int .i64 y.2.k) rfl
                  have e2 := HRk.out.1.at (gL_len CS) HRk.out.2 (j := 2) (by decide) (v := .string y.2.x) rfl
                  have e3 := HRk.out.1.at (gL_len CS) HRk.out.2 (j := 3) (by decide) (v := .int .i64 y.2.n) rfl
                  have e4 := HRk.out.1.at (gL_len CS) HRk.out.2 (j := 4) (by decide) (v := .string y.2.m) rfl
                  have e5 := HRk.out.1.at (gL_len CS) HRk.out.2 (j := 5) (by decide) (v := .slice y.2.q y.2.ql y.2.qc) rfl
                  have e6 := HRk.out.1.at (gL_len CS) HRk.out.2 (j := 6) (by decide) (v := .int .i64 y.2.li) rfl
                  have e7 := HRk.out.1.at (gL_len CS) HRk.out.2 (j := 7) (by decide) (v := .int .i64 y.2.co) rfl
                  rw [Nat.add_zero] at e0
                  have HCk := hide (HCC.out k y hy)
                  have ex2 : Ex (fun _ => False) wr (wr.alloc (gO 121 y)) := (Ex.refl _ _).alloc _
                  have HE2 := hide (HX.out.trans ex2)
                  have HB2 := hide (gO_new wr 121 y)
                  clear hy hq ex2 HX HRk HRL
                  obtain ⟨w2, hw2⟩ : ∃ x, wr.alloc (gO 121 y) = x := ⟨_, rfl⟩
                  rw [hw2] at HE2 HB2
                  have HW2 := hide hw2
                  unfold gO at HW2
                  clear hw2
                  go_upto_region 22 with fail
                  rw [HW2.out]
                  clear HW2 e0 e1 e2 e3 e4 e5 e6 e7
                  generalize wr.heap.size = r4 at *
                  have t0 := HB2.out 0 (.string y.1) rfl
                  have t1 := HB2.out 1 (.int .i64 y.2.k) rfl
                  have t2 := HB2.out 2 (.string y.2.x) rfl
                  have t3 := HB2.out 3 (.int .i64 y.2.n) rfl
                  have t4 := HB2.out 4 (.string y.2.m) rfl
                  have t5 := HB2.out 5 (.slice y.2.q y.2.ql y.2.qc) rfl
                  have t6 := HB2.out 6 (.int .i64 y.2.li) rfl
                  have t7 := HB2.out 7 (.int .i64 y.2.co) rfl
                  have HCW := hide HCk.out.2.1
                  have HIP := hide (fun W => isPlace_any W y.2 true HCk.out.2.2)
                  obtain ⟨b0, hb0⟩ : ∃ d, (y.1.toList == []) = d := ⟨_, rfl⟩
                  obtain ⟨b1, hb1⟩ : ∃ d, (y.1.toList == [78, 79, 84]) = d := ⟨_, rfl⟩
                  obtain ⟨b2, hb2⟩ : ∃ d, (y.1.toList == [83, 69, 84]) = d := ⟨_, rfl⟩
                  obtain ⟨b3, hb3⟩ : ∃ d, (y.1.toList == [82, 69, 83, 69, 84]) = d := ⟨_, rfl⟩
                  have hbe : y.1.toList.isEmpty = b0 := by rw [← hb0]; cases y.1.toList <;> rfl
                  have HBB : Hid (b0 = true ∨ b1 = true ∨ b2 = true ∨ b3 = true) := by
                    rcases HCk.out.1 with z | z | z | z
                    · left; rw [← hb0, z, ByteArray.toList_eq]; rfl
                    · right; left; rw [← hb1, z, tl_NOT]; rfl
                    · right; right; left; rw [← hb2, z, tl_SET]; rfl
                    · right; right; right; rw [← hb3, z, tl_RES]; rfl
                  unfold xV at HCW HIP
                  have HGO : Hid ((!b0 && !b1 && !b2 && !b3) = false) := by
                    rcases HBB.out with z | z | z | z <;> subst z <;> simp [Hid]
                  clear HBB
                  cases b0 <;> cases b1 <;> cases b2 <;> cases b3
                  · exact absurd HGO.out (by decide)
                  all_goals
                    go_wp2_with (first | (go_at_call 27; refine (HCW.out _ (HE.out.trans HE2.out)).mono ?_; rintro e9 w3 ⟨rfl, hex3⟩; have HE3 := hide (HE2.out.trans hex3); (have s1 := hex3.cell (fun z => z) t1; have s2 := hex3.cell (fun z => z) t2; have s3 := hex3.cell (fun z => z) t3; have s4 := hex3.cell (fun z => z) t4; have s5 := hex3.cell (fun z => z) t5; have s6 := hex3.cell (fun z => z) t6; have s7 := hex3.cell (fun z => z) t7); clear hex3 HE2 HB2 t0 t1 t2 t3 t4 t5 t6 t7 HCW; simp only []) | (go_at_call 54; refine (HIP.out _).mono ?_; rintro e9 w4 ⟨rfl, hex4⟩; have HE4 := hide (HE3.out.trans hex4); clear hex4 HE3 HIP; simp only []))
                    go_roundw
                    case rel => exact ⟨k + 1, by omega, by go_num, HE4.out⟩
                    case measure => simp [intOf]; omega
                · obtain rfl : k = nc := by omega
                  have d1 : decide ((k : Int) < (k : Int)) = false := decide_eq_false (by omega)
                  have HX4 := hide HX.out
                  clear HX hk hlt
                  have HF := hide (HE.out.trans HX4.out)
                  have HKf := hide (HK.out.keep HX4.out (fun z => z))
                  have k4 := HKf.out.c4
                  have k5 := HKf.out.c5
                  have HEL2 := hide (HEL.out wr HF.out)
                  unfold slV at HEL2 HBO
                  go_upto_region 27 with fail
                  go_wp2_with fail
                  refine HEL2.out.mono ?_
                  rintro e9 w4 ⟨rfl, hex4⟩
                  have HF4 := hide (HF.out.trans hex4)
                  have HK4 := hide (HKf.out.keep hex4 (fun z => z))
                  have k5 := HK4.out.c5
                  clear hex4 HF HKf k4 HEL2
                  simp only []
                  go_wp2_with fail
                  refine (HBO.out w4 HF4.out).mono ?_
                  rintro e9 w5 ⟨rfl, hex5⟩
                  have HF5 := hide (HF4.out.trans hex5)
                  have HK5 := hide (HK4.out.keep hex5 (fun z => z))
                  clear hex5 HF4 HK4 k5
                  simp only []
                  have hnb : nb.toList.isEmpty = true := by rw [ByteArray.toList_eq]; rfl
                  have hnb2 : (nb.toList == []) = true := by rw [ByteArray.toList_eq]; rfl
                  rcases HGK.out with ⟨g, f1, f2, l, c, rfl, hxs, hpl⟩ | ⟨x, v, l, c, rfl, hgn, hsz⟩ | ⟨va, vl, l, c, rfl, hva⟩ | ⟨x, g, vl, l, c, rfl, hgn, hsz⟩ | ⟨g, v, l, c, rfl, hva⟩
                  · have HIP := hide (fun W => isPlace_any W f1 true hpl)
                    subst hxs
                    have HR5 := hide HRex.out
                    clear hpl HGK HRex HRar HRag HRco HCX HCA HCG HCC HEL HBO
                    have k0 := HK5.out.c0
                    dsimp only [nl] at k0
                    have k1 := HK5.out.c1
                    dsimp only [nl] at k1
                    have k2 := HK5.out.c2
                    dsimp only [nl] at k2
                    have k3 := HK5.out.c3
                    dsimp only [nl] at k3
                    have k4 := HK5.out.c4
                    dsimp only [nl] at k4
                    have k5 := HK5.out.c5
                    dsimp only [nl] at k5
                    have k6 := HK5.out.c6
                    dsimp only [nl] at k6
                    have k7 := HK5.out.c7
                    dsimp only [nl] at k7
                    go_upto_region 29 with fail
                    go_quiet (fail)
                    rename Nat => nq
                    have HF6 := hide (HF5.out.trans ((Ex.refl (fun _ => False) w5).drewN nq))
                    have HK6 := hide (HK5.out.keep ((Ex.refl (fun _ => False) w5).drewN nq) (fun z => z))
                    clear k0 k1 k2 k3 k4 k5 k6 k7
                    generalize w5.drewN nq = w6 at *
                    have k0 := HK6.out.c0
                    dsimp only [nl] at k0
                    have k1 := HK6.out.c1
                    dsimp only [nl] at k1
                    have k2 := HK6.out.c2
                    dsimp only [nl] at k2
                    have k3 := HK6.out.c3
                    dsimp only [nl] at k3
                    have k4 := HK6.out.c4
                    dsimp only [nl] at k4
                    have k5 := HK6.out.c5
                    dsimp only [nl] at k5
                    have k6 := HK6.out.c6
                    dsimp only [nl] at k6
                    have k7 := HK6.out.c7
                    dsimp only [nl] at k7
                    have HRk := hide (RW.row (L := [f1, f2]) (F := xL) (g := g) (n := 2) (c := 2) (k := 0) (f := f1) (HR5.out.low HF6.out) rfl)
                    have e0 := HRk.out.1.at (xL_len [f1, f2]) HRk.out.2 (j := 0) (by decide) (v := .int .i64 f1.k) rfl
                    have e1 := HRk.out.1.at (xL_len [f1, f2]) HRk.out.2 (j := 1) (by decide) (v := .string f1.x) rfl
                    have e2 := HRk.out.1.at (xL_len [f1, f2]) HRk.out.2 (j := 2) (by decide) (v := .int .i64 f1.n) rfl
                    have e3 := HRk.out.1.at (xL_len [f1, f2]) HRk.out.2 (j := 3) (by decide) (v := .string f1.m) rfl
                    have e4 := HRk.out.1.at (xL_len [f1, f2]) HRk.out.2 (j := 4) (by decide) (v := .slice f1.q f1.ql f1.qc) rfl
                    have e5 := HRk.out.1.at (xL_len [f1, f2]) HRk.out.2 (j := 5) (by decide) (v := .int .i64 f1.li) rfl
                    have e6 := HRk.out.1.at (xL_len [f1, f2]) HRk.out.2 (j := 6) (by decide) (v := .int .i64 f1.co) rfl
                    simp only [Nat.zero_mul, Nat.zero_add] at e0 e1 e2 e3 e4 e5 e6
                    unfold xV at HIP
                    go_wp2_with (go_at_call 54; refine (HIP.out _).mono ?_; rintro e9 w9 ⟨rfl, hex9⟩; have HF9 := hide (HF6.out.trans hex9); have k1 := hex9.cell (fun z => z) k1; clear hex9; simp only [])
                    go_ret
                    exact ⟨rfl, HF9.out⟩
                  · have HGN := hide (fun W => goodName_yes W x hgn hsz)
                    clear hgn hsz HGK HRex HRar HRag HRco HCX HCA HCG HCC HEL HBO
                    have k0 := HK5.out.c0
                    dsimp only [nl] at k0
                    have k1 := HK5.out.c1
                    dsimp only [nl] at k1
                    have k2 := HK5.out.c2
                    dsimp only [nl] at k2
                    have k3 := HK5.out.c3
                    dsimp only [nl] at k3
                    have k4 := HK5.out.c4
                    dsimp only [nl] at k4
                    have k5 := HK5.out.c5
                    dsimp only [nl] at k5
                    have k6 := HK5.out.c6
                    dsimp only [nl] at k6
                    have k7 := HK5.out.c7
                    dsimp only [nl] at k7
                    go_upto_region 29 with fail
                    go_quiet (fail)
                    rename Nat => nq
                    have HF6 := hide (HF5.out.trans ((Ex.refl (fun _ => False) w5).drewN nq))
                    have HK6 := hide (HK5.out.keep ((Ex.refl (fun _ => False) w5).drewN nq) (fun z => z))
                    clear k0 k1 k2 k3 k4 k5 k6 k7
                    generalize w5.drewN nq = w6 at *
                    have k0 := HK6.out.c0
                    dsimp only [nl] at k0
                    have k1 := HK6.out.c1
                    dsimp only [nl] at k1
                    have k2 := HK6.out.c2
                    dsimp only [nl] at k2
                    have k3 := HK6.out.c3
                    dsimp only [nl] at k3
                    have k4 := HK6.out.c4
                    dsimp only [nl] at k4
                    have k5 := HK6.out.c5
                    dsimp only [nl] at k5
                    have k6 := HK6.out.c6
                    dsimp only [nl] at k6
                    have k7 := HK6.out.c7
                    dsimp only [nl] at k7
                    go_wp2_with (go_at_call 26; refine (HGN.out _).mono ?_; rintro e9 w9 ⟨rfl, hw9⟩; (have hw9' := hw9.symm; subst hw9'); simp only [])
                    go_ret
                    exact ⟨rfl, HF6.out⟩
                  · have dva : decide ((1 : Int) ≤ (va.n : Int)) = true := decide_eq_true (by omega)
                    clear hva HGK HRex HRar HRag HRco HCX HCA HCG HCC HEL HBO
                    have k0 := HK5.out.c0
                    dsimp only [nl] at k0
                    have k1 := HK5.out.c1
                    dsimp only [nl] at k1
                    have k2 := HK5.out.c2
                    dsimp only [nl] at k2
                    have k3 := HK5.out.c3
                    dsimp only [nl] at k3
                    have k4 := HK5.out.c4
                    dsimp only [nl] at k4
                    have k5 := HK5.out.c5
                    dsimp only [nl] at k5
                    have k6 := HK5.out.c6
                    dsimp only [nl] at k6
                    have k7 := HK5.out.c7
                    dsimp only [nl] at k7
                    go_upto_region 29 with fail
                    go_quiet (fail)
                    rename Nat => nq
                    have HF6 := hide (HF5.out.trans ((Ex.refl (fun _ => False) w5).drewN nq))
                    have HK6 := hide (HK5.out.keep ((Ex.refl (fun _ => False) w5).drewN nq) (fun z => z))
                    clear k0 k1 k2 k3 k4 k5 k6 k7
                    generalize w5.drewN nq = w6 at *
                    have k0 := HK6.out.c0
                    dsimp only [nl] at k0
                    have k1 := HK6.out.c1
                    dsimp only [nl] at k1
                    have k2 := HK6.out.c2
                    dsimp only [nl] at k2
                    have k3 := HK6.out.c3
                    dsimp only [nl] at k3
                    have k4 := HK6.out.c4
                    dsimp only [nl] at k4
                    have k5 := HK6.out.c5
                    dsimp only [nl] at k5
                    have k6 := HK6.out.c6
                    dsimp only [nl] at k6
                    have k7 := HK6.out.c7
                    dsimp only [nl] at k7
                    go_wp2
                    go_ret
                    exact ⟨rfl, HF6.out⟩
                  · have HGN := hide (fun W => goodName_yes W x hgn hsz)
                    clear hgn hsz HGK HRex HRar HRag HRco HCX HCA HCG HCC HEL HBO
                    have k0 := HK5.out.c0
                    dsimp only [nl] at k0
                    have k1 := HK5.out.c1
                    dsimp only [nl] at k1
                    have k2 := HK5.out.c2
                    dsimp only [nl] at k2
                    have k3 := HK5.out.c3
                    dsimp only [nl] at k3
                    have k4 := HK5.out.c4
                    dsimp only [nl] at k4
                    have k5 := HK5.out.c5
                    dsimp only [nl] at k5
                    have k6 := HK5.out.c6
                    dsimp only [nl] at k6
                    have k7 := HK5.out.c7
                    dsimp only [nl] at k7
                    go_upto_region 29 with fail
                    go_quiet (fail)
                    rename Nat => nq
                    have HF6 := hide (HF5.out.trans ((Ex.refl (fun _ => False) w5).drewN nq))
                    have HK6 := hide (HK5.out.keep ((Ex.refl (fun _ => False) w5).drewN nq) (fun z => z))
                    clear k0 k1 k2 k3 k4 k5 k6 k7
                    generalize w5.drewN nq = w6 at *
                    have k0 := HK6.out.c0
                    dsimp only [nl] at k0
                    have k1 := HK6.out.c1
                    dsimp only [nl] at k1
                    have k2 := HK6.out.c2
                    dsimp only [nl] at k2
                    have k3 := HK6.out.c3
                    dsimp only [nl] at k3
                    have k4 := HK6.out.c4
                    dsimp only [nl] at k4
                    have k5 := HK6.out.c5
                    dsimp only [nl] at k5
                    have k6 := HK6.out.c6
                    dsimp only [nl] at k6
                    have k7 := HK6.out.c7
                    dsimp only [nl] at k7
                    go_wp2_with (go_at_call 26; refine (HGN.out _).mono ?_; rintro e9 w9 ⟨rfl, hw9⟩; (have hw9' := hw9.symm; subst hw9'); simp only [])
                    go_ret
                    exact ⟨rfl, HF6.out⟩
                  · have dva : decide ((1 : Int) ≤ (v.n : Int)) = true := decide_eq_true (by omega)
                    clear hva HGK HRex HRar HRag HRco HCX HCA HCG HCC HEL HBO
                    have k0 := HK5.out.c0
                    dsimp only [nl] at k0
                    have k1 := HK5.out.c1
                    dsimp only [nl] at k1
                    have k2 := HK5.out.c2
                    dsimp only [nl] at k2
                    have k3 := HK5.out.c3
                    dsimp only [nl] at k3
                    have k4 := HK5.out.c4
                    dsimp only [nl] at k4
                    have k5 := HK5.out.c5
                    dsimp only [nl] at k5
                    have k6 := HK5.out.c6
                    dsimp only [nl] at k6
                    have k7 := HK5.out.c7
                    dsimp only [nl] at k7
                    go_upto_region 29 with fail
                    go_quiet (fail)
                    rename Nat => nq
                    have HF6 := hide (HF5.out.trans ((Ex.refl (fun _ => False) w5).drewN nq))
                    have HK6 := hide (HK5.out.keep ((Ex.refl (fun _ => False) w5).drewN nq) (fun z => z))
                    clear k0 k1 k2 k3 k4 k5 k6 k7
                    generalize w5.drewN nq = w6 at *
                    have k0 := HK6.out.c0
                    dsimp only [nl] at k0
                    have k1 := HK6.out.c1
                    dsimp only [nl] at k1
                    have k2 := HK6.out.c2
                    dsimp only [nl] at k2
                    have k3 := HK6.out.c3
                    dsimp only [nl] at k3
                    have k4 := HK6.out.c4
                    dsimp only [nl] at k4
                    have k5 := HK6.out.c5
                    dsimp only [nl] at k5
                    have k6 := HK6.out.c6
                    dsimp only [nl] at k6
                    have k7 := HK6.out.c7
                    dsimp only [nl] at k7
                    go_wp2
                    go_ret
                    exact ⟨rfl, HF6.out⟩
end Go.Proofs.Qxb6500774a
