import Derived.Test.Qxb6500774aSd1
namespace Go.Proofs.Qxb6500774a
open Go.RowKit
set_option linter.unusedVariables false
set_option linter.unusedSimpArgs false

/-- a declaration that is good, in memory -/
structure DcG (w : World) (f : DP) : Prop where
  cls : f.cls = bVAR ∨ f.cls = bVIN ∨ f.cls = bVOU
  nm : gN f.nm = true ∧ f.nm.size ≤ 4611686018427387904
  ty : gN f.ty = true ∧ f.ty.size ≤ 4611686018427387904
  lo : 0 ≤ f.lo
  hi : 0 ≤ f.hi
  na : f.arr = false → f.lo = 0 ∧ f.hi = 0
  ini : f.ini = nl ∨ ∃ g f1, f.ini = ⟨some ⟨g, 0, none⟩, 1, 1⟩ ∧ RC w g 0 f1 ∧ ∀ W, Ex (fun _ => False) w W → Calls Try.prog 27 #[xV f1] W (RdB W true)
theorem dc_good {w : World} : ∀ (L : List Dc) (F : List (List Value)), DS w ND L F → (∀ x ∈ L, gD x) → szDs L ≤ 4611686018427387904 → ∃ A : List DP, F = A.map dpL ∧ ∀ (i : Nat) y, A[i]? = some y → DcG w y
  | [], F, h, _, _ => ⟨[], h, fun i y h => by simp at h⟩
  | x :: L, F, h, hg, hs => by
    obtain ⟨v, G, rfl, h1, h2⟩ := h
    simp only [szDs] at hs
    obtain ⟨A, a1, a2⟩ := dc_good L G h2 (fun y hy => hg y (List.mem_cons_of_mem _ hy)) (by omega)
    have gx := hg x (List.mem_cons_self ..)
    refine ⟨⟨x.cls, x.nm, x.ty, x.arr, x.lo, x.hi, v, x.l, x.c⟩ :: A, by rw [a1]; rfl, fun i y hy => ?_⟩
    cases i with
    | succ i => exact a2 i y (by simpa using hy)
    | zero =>
      simp at hy
      subst hy
      have hsz : (strL x.nm).length + (strL x.ty).length + 200 ≤ szD x := by unfold szD; omega
      refine ⟨gx.cls, ⟨gx.nm, by show x.nm.size ≤ _; rw [strL_len]; omega⟩, ⟨gx.ty, by show x.ty.size ≤ _; rw [strL_len]; omega⟩, gx.lo.1, gx.hi.1, gx.na, ?_⟩
      cases hi : x.ini with
      | none => rw [hi] at h1; exact .inl h1
      | some e =>
        rw [hi] at h1
        obtain ⟨g, f, h3, h4, h5, h6⟩ := h1
        have he : sz e ≤ szD x := by unfold szD; rw [hi]; dsimp only; omega
        exact .inr ⟨g, f, h3, h5, fun W hW => goodE e (gx.ini e hi) (by omega) W f (h6.low hW)⟩
set_option linter.unusedSimpArgs false in
set_option linter.unusedVariables false in
set_option maxRecDepth 100000 in
set_option maxHeartbeats 32000000 in
theorem goodProg_yes (w : World) (x : ByteArray) (vd vb : SLc) (LA : List DP) (hra : RW w ND (LA.map dpL) vd) (hpp : ∀ (i : Nat) y, LA[i]? = some y → DcG w y) (hx : gN x = true) (hxs : x.size ≤ 4611686018427387904) (hbo : ∀ W, Ex (fun _ => False) w W → Calls Try.prog 28 #[slV vb] W (RdB W true)) : Calls Try.prog 10 #[.agg #[.string x, slV vd, slV vb]] w (RdB w true) := by
  have HRA := hide hra
  have HPP := hide hpp
  have HBO := hide hbo
  have HNA := hide hra.len
  have HGX := hide (fun W => goodName_yes W x hx hxs)
  clear hra hpp hbo hx hxs
  unfold slV at HBO ⊢
  have HE : Hid (Ex (fun _ => False) w (w.alloc (.cells #[.string x, .slice vd.q vd.n vd.c, .slice vb.q vb.n vb.c] 29))) := (Ex.refl _ _).alloc _
  have HKa := hide (P3.new1 w x vd vb)
  obtain ⟨w1, hw1⟩ : ∃ wz, w.alloc (.cells #[.string x, .slice vd.q vd.n vd.c, .slice vb.q vb.n vb.c] 29) = wz := ⟨_, rfl⟩
  rw [hw1] at HE HKa
  have HW1 := hide hw1
  clear hw1
  obtain ⟨n, hn⟩ : ∃ n, vd.n = n := ⟨_, rfl⟩
  have HN1 := hide hn
  have HMX : Hid (n ≤ maxLen) := by rw [← hn]; exact HNA.out.2
  clear hn
  go_enter Try.func10, Try.ntmps10
  go_upto_region 1 with fail
  rw [HW1.out]
  clear HW1
  generalize w.heap.size = p3 at *
  have ka1 := HKa.out.c1
  rw [HN1.out] at ka1
  have HX0 : Hid (Ex (fun _ => False) w1 w1) := Ex.refl _ _
  go_upto_region 2 with fail
  clear ka1
  go_loopw [8] (fun s8 wr => ∃ (k : Nat), k ≤ n ∧ s8 = .int .i64 k ∧ Ex (fun _ => False) w1 wr) (fun s8 _ => n - (intOf s8).toNat)
  case atStart => exact ⟨0, Nat.zero_le _, rfl, HX0.out⟩
  case round =>
    clear HX0
    obtain ⟨k, hk, rfl, hex⟩ := hrel
    have HX := hide hex
    clear hex
    by_cases hlt : k < n
    · have d1 : decide ((k : Int) < (n : Int)) = true := decide_eq_true (by omega)
      have d1n : decide (k < n) = true := decide_eq_true hlt
      have hwk : IntKind.i64.wrap ((k : Int) + 1) = ((k + 1 : Nat) : Int) := wrk (by have := HMX.out; unfold maxLen at this; omega)
      obtain ⟨f, hf⟩ : ∃ y, LA[k]? = some y := ⟨_, List.getElem?_eq_getElem (by rw [← HNA.out.1, HN1.out]; exact hlt)⟩
      have HDC := hide (HPP.out k f hf)
      obtain ⟨ga, hqa, _, _⟩ := HRA.out.2.2 (show 0 < vd.n by rw [HN1.out]; omega)
      have HRa := hide (RW.row (L := LA) (F := dpL) (g := ga) (n := vd.n) (c := vd.c) (by rw [← hqa]; exact HRA.out.low (HE.out.trans HX.out)) hf)
      rw [hqa]
      have a0 := HRa.out.1.at (dpl_len LA) HRa.out.2 (j := 0) (by decide) (v := .string f.cls) rfl
      have a1 := HRa.out.1.at (dpl_len LA) HRa.out.2 (j := 1) (by decide) (v := .string f.nm) rfl
      have a2 := HRa.out.1.at (dpl_len LA) HRa.out.2 (j := 2) (by decide) (v := .string f.ty) rfl
      have a3 := HRa.out.1.at (dpl_len LA) HRa.out.2 (j := 3) (by decide) (v := .bool f.arr) rfl
      have a4 := HRa.out.1.at (dpl_len LA) HRa.out.2 (j := 4) (by decide) (v := .int .i64 f.lo) rfl
      have a5 := HRa.out.1.at (dpl_len LA) HRa.out.2 (j := 5) (by decide) (v := .int .i64 f.hi) rfl
      have a6 := HRa.out.1.at (dpl_len LA) HRa.out.2 (j := 6) (by decide) (v := .slice f.ini.q f.ini.n f.ini.c) rfl
      have a7 := HRa.out.1.at (dpl_len LA) HRa.out.2 (j := 7) (by decide) (v := .int .i64 f.l) rfl
      have a8 := HRa.out.1.at (dpl_len LA) HRa.out.2 (j := 8) (by decide) (v := .int .i64 f.c) rfl
      rw [Nat.add_zero] at a0
      clear hf hqa HRa
      have ex2 : Ex (fun _ => False) wr (wr.alloc (dpO f)) := (Ex.refl _ _).alloc _
      have HX2 := hide (HX.out.trans ex2)
      have HB2 := hide (DK.new wr f)
      clear ex2 HX
      obtain ⟨w2, hw2⟩ : ∃ wz, wr.alloc (dpO f) = wz := ⟨_, rfl⟩
      rw [hw2] at HX2 HB2
      have HW2 := hide hw2
      unfold dpO at HW2
      clear hw2
      go_upto_region 4 with fail
      rw [HW2.out]
      clear HW2 a0 a1 a2 a3 a4 a5 a6 a7 a8
      generalize wr.heap.size = r4 at *
      have t0 := HB2.out.c0
      have t1 := HB2.out.c1
      have t2 := HB2.out.c2
      have t3 := HB2.out.c3
      have t4 := HB2.out.c4
      have t5 := HB2.out.c5
      have t6 := HB2.out.c6
      have HG1 := hide (fun W => goodName_yes W f.nm HDC.out.nm.1 HDC.out.nm.2)
      have HG2 := hide (fun W => goodName_yes W f.ty HDC.out.ty.1 HDC.out.ty.2)
      have q1 : decide (f.lo < (0 : Int)) = false := decide_eq_false (by have := HDC.out.lo; omega)
      have q2 : decide (f.hi < (0 : Int)) = false := decide_eq_false (by have := HDC.out.hi; omega)
      obtain ⟨b1, hb1⟩ : ∃ d, (f.cls.toList == [86, 65, 82]) = d := ⟨_, rfl⟩
      obtain ⟨b2, hb2⟩ : ∃ d, (f.cls.toList == [86, 65, 82, 95, 73, 78, 80, 85, 84]) = d := ⟨_, rfl⟩
      obtain ⟨b3, hb3⟩ : ∃ d, (f.cls.toList == [86, 65, 82, 95, 79, 85, 84, 80, 85, 84]) = d := ⟨_, rfl⟩
      have n1 : (f.cls.toList != [86, 65, 82]) = !b1 := by rw [← hb1]; rfl
      have n2 : (f.cls.toList != [86, 65, 82, 95, 73, 78, 80, 85, 84]) = !b2 := by rw [← hb2]; rfl
      have n3 : (f.cls.toList != [86, 65, 82, 95, 79, 85, 84, 80, 85, 84]) = !b3 := by rw [← hb3]; rfl
      have HBB : Hid ((!b1 && !b2 && !b3) = false) := by
        rcases HDC.out.cls with z | z | z
        · have : b1 = true := by rw [← hb1, z, tl_VAR]; rfl
          subst this; simp [Hid]
        · have : b2 = true := by rw [← hb2, z, tl_VIN]; rfl
          subst this; simp [Hid]
        · have : b3 = true := by rw [← hb3, z, tl_VOU]; rfl
          subst this; simp [Hid]
      go_cut [8, 4, 24] (fun s8 s4 s24 wx => s8 = .int .i64 k ∧ s4 = .pointer (some ⟨r4, 0, none⟩) ∧ s24 = .bool false ∧ wx = w2)
      case first =>
        cases b1 <;> cases b2 <;> cases b3
        · exact absurd HBB.out (by decide)
        all_goals
          go_wp2
          go_meet
          case rel => exact ⟨rfl, rfl, rfl, rfl⟩
      obtain ⟨rfl, rfl, rfl, rfl⟩ := hcut
      cases harr : f.arr
      · rcases HDC.out.ini with hni | ⟨g, f1, hni, hrc, hcall⟩
        · have hz := HDC.out.na harr
          rw [hz.1] at t4 q1
          rw [hz.2] at t5 q2
          rw [harr] at t3
          rw [hni] at t6
          dsimp only [nl] at t6
          clear harr hni HDC hb1 hb2 hb3 n1 n2 n3 HBB
          go_upto_region 6 with fail
          go_wp2_with fail
          refine (HG1.out _).mono ?_
          rintro e9 w9 ⟨rfl, hw9⟩
          (have hw9' := hw9.symm; subst hw9')
          simp only []
          go_wp2_with fail
          refine (HG2.out _).mono ?_
          rintro e9 w9 ⟨rfl, hw9⟩
          (have hw9' := hw9.symm; subst hw9')
          simp only []
          have HX3 := HX2
          go_wp2
          go_roundw
          case rel => exact ⟨k + 1, by omega, by go_num, HX3.out⟩
          case measure => simp [intOf]; omega
        · have hz := HDC.out.na harr
          rw [hz.1] at t4 q1
          rw [hz.2] at t5 q2
          rw [harr] at t3
          rw [hni] at t6
          dsimp only [nl] at t6
          have HCI := hide (hcall wc (HE.out.trans HX2.out))
          have hrc2 := hrc.keep (HE.out.trans HX2.out) (fun z => z)
          have e0 := hrc2.c0
          have e1 := hrc2.c1
          have e2 := hrc2.c2
          have e3 := hrc2.c3
          have e4 := hrc2.c4
          have e5 := hrc2.c5
          have e6 := hrc2.c6
          simp only [Nat.zero_add] at e1 e2 e3 e4 e5 e6
          unfold xV at HCI
          clear hrc hrc2 hcall
          clear harr hni HDC hb1 hb2 hb3 n1 n2 n3 HBB
          go_upto_region 6 with fail
          go_wp2_with fail
          refine (HG1.out _).mono ?_
          rintro e9 w9 ⟨rfl, hw9⟩
          (have hw9' := hw9.symm; subst hw9')
          simp only []
          go_wp2_with fail
          refine (HG2.out _).mono ?_
          rintro e9 w9 ⟨rfl, hw9⟩
          (have hw9' := hw9.symm; subst hw9')
          simp only []
          go_wp2_with (go_at_call 27; refine HCI.out.mono ?_; rintro e9 w3 ⟨rfl, hex3⟩; have HX3 := hide (HX2.out.trans hex3); clear hex3; simp only [])
          go_roundw
          case rel => exact ⟨k + 1, by omega, by go_num, HX3.out⟩
          case measure => simp [intOf]; omega
      · rcases HDC.out.ini with hni | ⟨g, f1, hni, hrc, hcall⟩
        · rw [harr] at t3
          rw [hni] at t6
          dsimp only [nl] at t6
          clear harr hni HDC hb1 hb2 hb3 n1 n2 n3 HBB
          go_upto_region 6 with fail
          go_wp2_with fail
          refine (HG1.out _).mono ?_
          rintro e9 w9 ⟨rfl, hw9⟩
          (have hw9' := hw9.symm; subst hw9')
          simp only []
          go_wp2_with fail
          refine (HG2.out _).mono ?_
          rintro e9 w9 ⟨rfl, hw9⟩
          (have hw9' := hw9.symm; subst hw9')
          simp only []
          have HX3 := HX2
          go_wp2
          go_roundw
          case rel => exact ⟨k + 1, by omega, by go_num, HX3.out⟩
          case measure => simp [intOf]; omega
        · rw [harr] at t3
          rw [hni] at t6
          dsimp only [nl] at t6
          have HCI := hide (hcall wc (HE.out.trans HX2.out))
          have hrc2 := hrc.keep (HE.out.trans HX2.out) (fun z => z)
          have e0 := hrc2.c0
          have e1 := hrc2.c1
          have e2 := hrc2.c2
          have e3 := hrc2.c3
          have e4 := hrc2.c4
          have e5 := hrc2.c5
          have e6 := hrc2.c6
          simp only [Nat.zero_add] at e1 e2 e3 e4 e5 e6
          unfold xV at HCI
          clear hrc hrc2 hcall
          clear harr hni HDC hb1 hb2 hb3 n1 n2 n3 HBB
          go_upto_region 6 with fail
          go_wp2_with fail
          refine (HG1.out _).mono ?_
          rintro e9 w9 ⟨rfl, hw9⟩
          (have hw9' := hw9.symm; subst hw9')
          simp only []
          go_wp2_with fail
          refine (HG2.out _).mono ?_
          rintro e9 w9 ⟨rfl, hw9⟩
          (have hw9' := hw9.symm; subst hw9')
          simp only []
          go_wp2_with (go_at_call 27; refine HCI.out.mono ?_; rintro e9 w3 ⟨rfl, hex3⟩; have HX3 := hide (HX2.out.trans hex3); clear hex3; simp only [])
          go_roundw
          case rel => exact ⟨k + 1, by omega, by go_num, HX3.out⟩
          case measure => simp [intOf]; omega
    · obtain rfl : k = n := by omega
      have d1 : decide ((k : Int) < (k : Int)) = false := decide_eq_false (by omega)
      have HF := hide (HE.out.trans HX.out)
      have ka0 := (HKa.out.keep HX.out (fun z => z)).c0
      have ka2 := (HKa.out.keep HX.out (fun z => z)).c2
      have HCB := hide (HBO.out wr HF.out)
      go_upto_region 13 with fail
      go_wp2_with (first | (go_at_call 26; refine (HGX.out _).mono ?_; rintro e9 w9 ⟨rfl, hw9⟩; (have hw9' := hw9.symm; subst hw9'); simp only []) | (go_at_call 28; refine HCB.out.mono ?_; rintro e9 w3 ⟨rfl, hex3⟩; have HF3 := hide (HF.out.trans hex3); clear hex3; simp only []))
      go_ret
      exact ⟨rfl, HF3.out⟩
end Go.Proofs.Qxb6500774a
