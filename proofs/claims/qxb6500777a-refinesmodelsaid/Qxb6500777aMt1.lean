import Derived.Test.Qxb6500777aMt0
namespace Go.Proofs.Qxb6500777a
open Go.RowKit

set_option linter.unusedSimpArgs false in
set_option linter.unusedVariables false in
set_option maxRecDepth 1000000 in
set_option maxHeartbeats 400000000 in
theorem mt1 (w : World) (m mb o p : Nat) (tm : Int) (X Y : Nat → Int) (W : Nat → Tgt) (da : Option Addr) (nd cd : Nat) (D : List Det) (B : Nat) (a : Option Addr) (n c : Nat) (E : List Slt) (nx : Int) (hld : nd ≤ 1000000) (hx : 0 ≤ nx ∧ nx + 112 ≤ 1000000000) (h64 : n ≤ 64) (HV : Hid (VA w mb o B a n c E nx)) (HMI : Hid (MI E nx)) (HTC : Hid (TC w m p X Y W da D)) (HND : Hid (nd = D.length)) (HWO : Hid (∀ (t : Nat), t < 112 → TgtOk (W t))) (HTN : Hid (TN m p mb da)) (HMB : Hid (mb < w.heap.size)) (HLN : Hid (n = E.length)) (HOB : Hid (∀ (s : Slt), s ∈ E → SltOk (obsS (fuseP D tm) W X Y s))) (i0 : TypeInfo) (HI : Hid (Try.prog.info? 113 = some i0 ∧ i0.zero = some (Value.agg #[Value.int IntKind.i64 0, Value.int IntKind.i64 0, Value.int IntKind.i64 0, Value.int IntKind.i64 0, Value.int IntKind.i64 0, Value.int IntKind.i64 0, Value.int IntKind.i64 0, Value.int IntKind.i64 0, Value.int IntKind.i64 0]) ∧ i0.size = 9 ∧ i0.bytes = 72)) (w1 : World) (HB : Hid (Below w.heap.size w w1)) (ga : Nat) (HGL : Hid (ga < w1.heap.size)) (HAA : Hid (AA w1 ga n (obsA (fuseP D tm) W X Y E 0))) (HGA : Hid (w.heap.size ≤ ga)) (K' : Act → World → Prop) (QQ : Ending → World → Prop)
    (hK : ∀ (u12 u13 u14 u41 u42 u43 u44 u45 u46 u47 u48 u49 u50 u51 u52 u53 u54 u55 u56 u57 u58 u59 u60 u61 u62 u63 u64 u65 u66 u67 u68 u69 u70 u71 u72 u73 u74 u75 u76 u77 u78 : Value) (w' : World), ((AA w' ga n fun i => obsS (fuseP D tm) W X Y (atM E i)) ∧ ga < w'.heap.size ∧ Below w.heap.size w w') → K' ⟨#[Value.pointer (some ⟨m, 0, none⟩), Value.pointer (some ⟨mb, o, none⟩), Value.int IntKind.i64 tm, Value.slice da nd cd, Value.pointer (some ⟨p, 0, none⟩), undef, undef, undef, undef, undef, Value.int IntKind.i64 ((n : Nat) : Int), Value.slice (some ⟨ga, 0, none⟩) n n, u12, u13, u14, undef, undef, undef, undef, undef, undef, undef, undef, undef, undef, undef, undef, undef, undef, undef, undef, undef, undef, undef, Value.pointer (some ⟨mb, o, none⟩), Value.pointer (some ⟨mb, o, none⟩), Value.pointer (some ⟨mb, o, none⟩), Value.slice a n c, Value.int IntKind.i64 ((n : Nat) : Int), Value.int IntKind.i64 ((n : Nat) : Int), Value.slice (some ⟨ga, 0, none⟩) n n, u41, u42, u43, u44, u45, u46, u47, u48, u49, u50, u51, u52, u53, u54, u55, u56, u57, u58, u59, u60, u61, u62, u63, u64, u65, u66, u67, u68, u69, u70, u71, u72, u73, u74, u75, u76, u77, u78, undef, undef, undef, undef, undef, undef, undef, undef, undef, undef, undef, undef, undef, undef, undef, undef, undef, undef, undef, undef, undef, undef, undef, undef, undef, undef, undef, undef, undef, undef, undef, undef, undef, undef, undef, undef, undef, undef, undef, undef, undef, undef, undef, undef, undef, undef, undef, undef, undef, undef, undef, undef, undef, undef, undef, undef, undef, undef, undef, undef, undef, undef, undef, undef, undef, undef, undef, undef, undef, undef, undef, undef, undef, undef, undef, undef, undef, undef, undef, undef, undef, undef, undef, undef, undef, undef, undef, undef, undef, undef, undef, undef, undef, undef, undef, undef, undef, undef, undef, undef, undef, undef, undef, undef, undef, undef, undef, undef, undef, undef, undef, undef, undef, undef, undef, undef, undef, undef, undef, undef, undef, undef, undef, undef, undef, undef, undef, undef, undef, undef, undef, undef, undef, undef, undef, undef, undef, undef, undef, undef, undef, undef, undef, undef, undef, undef, undef, undef, undef, undef, undef, undef, undef, undef, undef, undef, undef, undef, undef, undef, undef, undef, undef, undef, undef, undef, undef, undef, undef, undef, undef, undef, undef, undef, undef, undef, undef, undef, undef, undef, undef, undef, undef, undef, undef, undef, undef, undef, undef, undef, undef, undef, undef, undef, undef, undef, undef, undef, undef, undef, undef, undef, undef, undef, undef, undef, undef, undef, undef, undef, undef, undef, undef, undef, undef, undef, undef, undef, undef, undef, undef, undef, undef, undef, undef, undef, undef, undef, undef, undef, undef, undef, undef, undef, undef, undef, undef, undef, undef, undef, undef, undef, undef, undef, undef, undef, undef, undef, undef, undef, undef, undef, undef, undef, undef, undef, undef, undef, undef, undef, undef, undef, undef, undef, undef, undef, undef, undef, undef, undef, undef, undef, undef, undef, undef, undef, undef, undef, undef, undef, undef, undef, undef, undef, undef, undef, undef, undef, undef, undef, undef, undef, undef, undef, undef, undef, undef, undef, undef, undef, undef, undef, undef, undef, undef, undef, undef, undef, undef, undef, undef, undef, undef, undef, undef, undef, undef, undef, undef, undef], []⟩ w') :
    Code.wp Try.prog (tblk 0) (Exit.then K' (bodyPost Try.prog Try.f44 QQ)) ⟨#[Value.pointer (some ⟨m, 0, none⟩), Value.pointer (some ⟨mb, o, none⟩), Value.int IntKind.i64 tm, Value.slice da nd cd, Value.pointer (some ⟨p, 0, none⟩), undef, undef, undef, undef, undef, Value.int IntKind.i64 ((n : Nat) : Int), Value.slice (some ⟨ga, 0, none⟩) n n, Value.int IntKind.i64 0, undef, undef, undef, undef, undef, undef, undef, undef, undef, undef, undef, undef, undef, undef, undef, undef, undef, undef, undef, undef, undef, Value.pointer (some ⟨mb, o, none⟩), Value.pointer (some ⟨mb, o, none⟩), Value.pointer (some ⟨mb, o, none⟩), Value.slice a n c, Value.int IntKind.i64 ((n : Nat) : Int), Value.int IntKind.i64 ((n : Nat) : Int), Value.slice (some ⟨ga, 0, none⟩) n n, undef, undef, undef, undef, undef, undef, undef, undef, undef, undef, undef, undef, undef, undef, undef, undef, undef, undef, undef, undef, undef, undef, undef, undef, undef, undef, undef, undef, undef, undef, undef, undef, undef, undef, undef, undef, undef, undef, undef, undef, undef, undef, undef, undef, undef, undef, undef, undef, undef, undef, undef, undef, undef, undef, undef, undef, undef, undef, undef, undef, undef, undef, undef, undef, undef, undef, undef, undef, undef, undef, undef, undef, undef, undef, undef, undef, undef, undef, undef, undef, undef, undef, undef, undef, undef, undef, undef, undef, undef, undef, undef, undef, undef, undef, undef, undef, undef, undef, undef, undef, undef, undef, undef, undef, undef, undef, undef, undef, undef, undef, undef, undef, undef, undef, undef, undef, undef, undef, undef, undef, undef, undef, undef, undef, undef, undef, undef, undef, undef, undef, undef, undef, undef, undef, undef, undef, undef, undef, undef, undef, undef, undef, undef, undef, undef, undef, undef, undef, undef, undef, undef, undef, undef, undef, undef, undef, undef, undef, undef, undef, undef, undef, undef, undef, undef, undef, undef, undef, undef, undef, undef, undef, undef, undef, undef, undef, undef, undef, undef, undef, undef, undef, undef, undef, undef, undef, undef, undef, undef, undef, undef, undef, undef, undef, undef, undef, undef, undef, undef, undef, undef, undef, undef, undef, undef, undef, undef, undef, undef, undef, undef, undef, undef, undef, undef, undef, undef, undef, undef, undef, undef, undef, undef, undef, undef, undef, undef, undef, undef, undef, undef, undef, undef, undef, undef, undef, undef, undef, undef, undef, undef, undef, undef, undef, undef, undef, undef, undef, undef, undef, undef, undef, undef, undef, undef, undef, undef, undef, undef, undef, undef, undef, undef, undef, undef, undef, undef, undef, undef, undef, undef, undef, undef, undef, undef, undef, undef, undef, undef, undef, undef, undef, undef, undef, undef, undef, undef, undef, undef, undef, undef, undef, undef, undef, undef, undef, undef, undef, undef, undef, undef, undef, undef, undef, undef, undef, undef, undef, undef, undef, undef, undef, undef, undef, undef, undef, undef, undef, undef, undef, undef, undef, undef, undef, undef, undef, undef, undef, undef, undef, undef, undef, undef, undef, undef, undef, undef, undef, undef, undef, undef, undef, undef, undef, undef, undef, undef, undef, undef, undef, undef, undef, undef, undef, undef, undef, undef, undef], []⟩ w1 := by
  have HKK := hide hK
  clear hK
  conv => arg 2; whnf
  go_wp2
  refine wp_loop_mix [none, none, none, none, none, none, none, none, none, none, none, none, some 12, some 13, some 14, none, none, none, none, none, none, none, none, none, none, none, none, none, none, none, none, none, none, none, none, none, none, none, none, none, none, some 41, some 42, some 43, some 44, some 45, some 46, some 47, some 48, some 49, some 50, some 51, some 52, some 53, some 54, some 55, some 56, some 57, some 58, some 59, some 60, some 61, some 62, some 63, some 64, some 65, some 66, some 67, some 68, some 69, some 70, some 71, some 72, some 73, some 74, some 75, some 76, some 77, some 78, none, none, none, none, none, none, none, none, none, none, none, none, none, none, none, none, none, none, none, none, none, none, none, none, none, none, none, none, none, none, none, none, none, none, none, none, none, none, none, none, none, none, none, none, none, none, none, none, none, none, none, none, none, none, none, none, none, none, none, none, none, none, none, none, none, none, none, none, none, none, none, none, none, none, none, none, none, none, none, none, none, none, none, none, none, none, none, none, none, none, none, none, none, none, none, none, none, none, none, none, none, none, none, none, none, none, none, none, none, none, none, none, none, none, none, none, none, none, none, none, none, none, none, none, none, none, none, none, none, none, none, none, none, none, none, none, none, none, none, none, none, none, none, none, none, none, none, none, none, none, none, none, none, none, none, none, none, none, none, none, none, none, none, none, none, none, none, none, none, none, none, none, none, none, none, none, none, none, none, none, none, none, none, none, none, none, none, none, none, none, none, none, none, none, none, none, none, none, none, none, none, none, none, none, none, none, none, none, none, none, none, none, none, none, none, none, none, none, none, none, none, none, none, none, none, none, none, none, none, none, none, none, none, none, none, none, none, none, none, none, none, none, none, none, none, none, none, none, none, none, none, none, none, none, none, none, none, none, none, none, none, none, none, none, none, none, none, none, none, none, none, none, none, none, none, none, none, none, none, none, none, none, none, none, none, none, none, none, none, none, none, none, none, none, none, none, none, none, none, none, none, none, none, none, none, none, none, none, none, none, none, none, none, none, none, none, none, none, none, none] (by kernel_rfl) (fun us wy => (fun s12 _ _ wy => ∃ i : Nat, i ≤ n ∧ s12 = .int .i64 i ∧ AA wy ga n (obsA (fuseP D tm) W X Y E i) ∧ ga < wy.heap.size ∧ Below w.heap.size w wy) (us 12) (us 13) (us 14) wy) (fun us wy => (fun s12 _ _ _ => n - (intOf s12).toNat) (us 12) (us 13) (us 14) wy) ?atStart ?round
  case atStart => (dsimp only [getL]; exact ⟨0, by omega, rfl, HAA.out, HGL.out, HB.out⟩)
  case round =>
    intro us wr hrel J1 hJ1
    dsimp only at hrel hJ1
    dsimp only [mixF]
    generalize us 12 = s12 at hrel hJ1 ⊢
    have HJ1 := hide hJ1
    clear hJ1
    clear HAA HGL HB
    obtain ⟨i, hi, rfl, haa, hgl, hb⟩ := hrel
    have HAA := hide haa
    have HGL := hide hgl
    have HB := hide hb
    clear haa hgl hb
    by_cases hin : i < n
    · have hini : (i : Int) < (n : Int) := by omega
      have hi0' : decide ((i : Int) < 0) = false := by simp
      obtain ⟨e, he⟩ : ∃ e, E[i]? = some e := ⟨_, List.getElem?_eq_getElem (by have := HLN.out; omega)⟩
      have HEM := hide (List.mem_of_getElem? he)
      have HOS := hide (show obsS (fuseP D tm) W X Y (atM E i) = obsS (fuseP D tm) W X Y e by rw [atM_get he])
      have hto := (HMI.out.ok.ok e HEM.out).tg
      obtain ⟨tn, htn⟩ : ∃ t : Nat, e.tg = t := ⟨e.tg.toNat, by omega⟩
      have htl : tn < 112 := by omega
      have htli : (tn : Int) < 112 := by omega
      have ht0 : decide ((tn : Int) < 0) = false := by simp
      have HTG := hide htn
      have HOE := hide (vobs (best := (fuseP D tm)) (W := W) (X := X) (Y := Y) (HMI.out.ok.us e HEM.out) htn)
      have HVr := hide (HV.out.below HB.out)
      obtain ⟨ge, ea, hre⟩ := HVr.out.row.get HLN.out he
      have c0 := HVr.out.c0
      rw [ea] at c0
      have HEA := hide ea
      obtain ⟨e0, e1, e2, e3, e4, e5, e6, e7, e8⟩ := hre.ee
      clear hre he hto htn ea
      go_upto_region 6 with fail
      have HBX := hide (new_re wr e)
      have HAL := hide HAA.out
      replace HAA := hide (HAA.out.below HGL.out (be1 wr (.cells #[.int .i64 e.tg, .int .i64 e.sk, .int .i64 e.tr.num, .int .i64 e.tr.x, .int .i64 e.tr.y, .int .i64 e.tr.co, .int .i64 e.tr.sp, .int .i64 e.tr.st, .int .i64 e.tr.ag] 113)))
      have HXG := hide (show ga ≠ wr.heap.size ∧ w.heap.size ≤ wr.heap.size from ⟨by have := HGL.out; omega, HB.out.size⟩)
      replace HGL := hide (Nat.lt_of_lt_of_le HGL.out (be1 wr (.cells #[.int .i64 e.tg, .int .i64 e.sk, .int .i64 e.tr.num, .int .i64 e.tr.x, .int .i64 e.tr.y, .int .i64 e.tr.co, .int .i64 e.tr.sp, .int .i64 e.tr.st, .int .i64 e.tr.ag] 113)).size)
      replace HB := hide (lec HB.out (be1 wr (.cells #[.int .i64 e.tg, .int .i64 e.sk, .int .i64 e.tr.num, .int .i64 e.tr.x, .int .i64 e.tr.y, .int .i64 e.tr.co, .int .i64 e.tr.sp, .int .i64 e.tr.st, .int .i64 e.tr.ag] 113)))
      generalize wr.alloc (.cells #[.int .i64 e.tg, .int .i64 e.sk, .int .i64 e.tr.num, .int .i64 e.tr.x, .int .i64 e.tr.y, .int .i64 e.tr.co, .int .i64 e.tr.sp, .int .i64 e.tr.st, .int .i64 e.tr.ag] 113) = w2 at *
      generalize wr.heap.size = x at *
      clear HAL HVr c0 e0 e1 e2 e3 e4 e5 e6 e7 e8
      have x0 := HBX.out.ee.1
      rw [HTG.out] at x0
      go_wp2_with fail
      refine (fused_any _ da nd cd D (HTC.out.below HB.out).dd HND.out hld tm tn htl).mono ?_
      rintro e' w3 ⟨rfl, rfl⟩
      clear x0
      have hgr := fuse_rng D tm tn
      obtain ⟨g, hg⟩ : ∃ g, fuseP D tm tn = g := ⟨_, rfl⟩
      rw [hg] at HOE hgr ⊢
      clear hg
      by_cases hg0 : 0 < g
      · have hgd : decide (0 < g) = true := by simp; omega
        have cd' := fun w => hide (detected_any w e (HMI.out.ok.ok e HEM.out) (W tn) (HWO.out tn htl) g)
        obtain ⟨s', hs'⟩ : ∃ s, refreshP e (W tn) g = s := ⟨_, rfl⟩
        rw [HTG.out, hs'] at cd'
        have HNW := hide (show obsS (fuseP D tm) W X Y (atM E i) = s' by rw [HOS.out, HOE.out, if_pos hg0, hs'])
        clear hs' hg0 HOE HOS
        go_upto_region 8 with fail
        have zS := z8 HBX.out HTG.out (HTC.out.below HB.out).wa htl
        refine wp_region_held_drew (S := fun w' => w'.cell? ⟨x, 0, none⟩ = some (.int .i64 (tn : Int)) ∧ w'.cell? ⟨x, 1, none⟩ = some (.int .i64 e.sk) ∧ w'.cell? ⟨x, 2, none⟩ = some (.int .i64 e.tr.num) ∧ w'.cell? ⟨x, 3, none⟩ = some (.int .i64 e.tr.x) ∧ w'.cell? ⟨x, 4, none⟩ = some (.int .i64 e.tr.y) ∧ w'.cell? ⟨x, 5, none⟩ = some (.int .i64 e.tr.co) ∧ w'.cell? ⟨x, 6, none⟩ = some (.int .i64 e.tr.sp) ∧ w'.cell? ⟨x, 7, none⟩ = some (.int .i64 e.tr.st) ∧ w'.cell? ⟨x, 8, none⟩ = some (.int .i64 e.tr.ag) ∧ w'.cell? ⟨p, tn * 4, none⟩ = some (.int .i64 (W tn).x) ∧ w'.cell? ⟨p, tn * 4 + 1, none⟩ = some (.int .i64 (W tn).y) ∧ w'.cell? ⟨p, tn * 4 + 2, none⟩ = some (.int .i64 (W tn).co) ∧ w'.cell? ⟨p, tn * 4 + 3, none⟩ = some (.int .i64 (W tn).sp)) (by kernel_rfl) zS (fun hHeld => ?_)
        refine wpAnyH_take (i := 0) (v := ?_) rfl (by kernel_rfl) (by kernel_rfl) (by kernel_rfl) (fun _ _ _ h => h) (Or.inl ⟨by rfl, ?_⟩) (by assumption) ?_
        rotate_left
        · (intro w hSw; (try dsimp only at hSw); go_simp; try (with_reducible rfl))
        try simp only [Act.put, List.getElem_toArray, List.getElem_cons_zero, List.getElem_cons_succ, List.setIfInBounds_toArray, List.set_cons_zero, List.set_cons_succ]
        refine wpAnyH_take (i := 1) (v := ?_) rfl (by kernel_rfl) (by kernel_rfl) (by kernel_rfl) (fun _ _ _ h => h) (Or.inl ⟨by rfl, ?_⟩) (by assumption) ?_
        rotate_left
        · (intro w hSw; (try dsimp only at hSw); go_simp; try (with_reducible rfl))
        try simp only [Act.put, List.getElem_toArray, List.getElem_cons_zero, List.getElem_cons_succ, List.setIfInBounds_toArray, List.set_cons_zero, List.set_cons_succ]
        refine wpAnyH_take (i := 2) (v := ?_) rfl (by kernel_rfl) (by kernel_rfl) (by kernel_rfl) (fun _ _ _ h => h) (Or.inl ⟨by rfl, ?_⟩) (by assumption) ?_
        rotate_left
        · (intro w hSw; (try dsimp only at hSw); go_simp; try (with_reducible rfl))
        try simp only [Act.put, List.getElem_toArray, List.getElem_cons_zero, List.getElem_cons_succ, List.setIfInBounds_toArray, List.set_cons_zero, List.set_cons_succ]
        refine wpAnyH_take (i := 3) (v := ?_) rfl (by kernel_rfl) (by kernel_rfl) (by kernel_rfl) (fun _ _ _ h => h) (Or.inl ⟨by rfl, ?_⟩) (by assumption) ?_
        rotate_left
        · (intro w hSw; (try dsimp only at hSw); go_simp; try (with_reducible rfl))
        try simp only [Act.put, List.getElem_toArray, List.getElem_cons_zero, List.getElem_cons_succ, List.setIfInBounds_toArray, List.set_cons_zero, List.set_cons_succ]
        refine wpAnyH_take (i := 4) (v := ?_) rfl (by kernel_rfl) (by kernel_rfl) (by kernel_rfl) (fun _ _ _ h => h) (Or.inl ⟨by rfl, ?_⟩) (by assumption) ?_
        rotate_left
        · (intro w hSw; (try dsimp only at hSw); go_simp; try (with_reducible rfl))
        try simp only [Act.put, List.getElem_toArray, List.getElem_cons_zero, List.getElem_cons_succ, List.setIfInBounds_toArray, List.set_cons_zero, List.set_cons_succ]
        refine wpAnyH_take (i := 5) (v := ?_) rfl (by kernel_rfl) (by kernel_rfl) (by kernel_rfl) (fun _ _ _ h => h) (Or.inl ⟨by rfl, ?_⟩) (by assumption) ?_
        rotate_left
        · (intro w hSw; (try dsimp only at hSw); go_simp; try (with_reducible rfl))
        try simp only [Act.put, List.getElem_toArray, List.getElem_cons_zero, List.getElem_cons_succ, List.setIfInBounds_toArray, List.set_cons_zero, List.set_cons_succ]
        refine wpAnyH_take (i := 6) (v := ?_) rfl (by kernel_rfl) (by kernel_rfl) (by kernel_rfl) (fun _ _ _ h => h) (Or.inl ⟨by rfl, ?_⟩) (by assumption) ?_
        rotate_left
        · (intro w hSw; (try dsimp only at hSw); go_simp; try (with_reducible rfl))
        try simp only [Act.put, List.getElem_toArray, List.getElem_cons_zero, List.getElem_cons_succ, List.setIfInBounds_toArray, List.set_cons_zero, List.set_cons_succ]
        refine wpAnyH_take (i := 7) (v := ?_) rfl (by kernel_rfl) (by kernel_rfl) (by kernel_rfl) (fun _ _ _ h => h) (Or.inl ⟨by rfl, ?_⟩) (by assumption) ?_
        rotate_left
        · (intro w hSw; (try dsimp only at hSw); go_simp; try (with_reducible rfl))
        try simp only [Act.put, List.getElem_toArray, List.getElem_cons_zero, List.getElem_cons_succ, List.setIfInBounds_toArray, List.set_cons_zero, List.set_cons_succ]
        refine wpAnyH_take (i := 8) (v := ?_) rfl (by kernel_rfl) (by kernel_rfl) (by kernel_rfl) (fun _ _ _ h => h) (Or.inl ⟨by rfl, ?_⟩) (by assumption) ?_
        rotate_left
        · (intro w hSw; (try dsimp only at hSw); go_simp; try (with_reducible rfl))
        try simp only [Act.put, List.getElem_toArray, List.getElem_cons_zero, List.getElem_cons_succ, List.setIfInBounds_toArray, List.set_cons_zero, List.set_cons_succ]
        refine wpAnyH_take (i := 9) (v := ?_) rfl (by kernel_rfl) (by kernel_rfl) (by kernel_rfl) (fun _ _ _ h => h) (Or.inl ⟨by rfl, ?_⟩) (by assumption) ?_
        rotate_left
        · (intro w hSw; (try dsimp only at hSw); go_simp; try (with_reducible rfl))
        try simp only [Act.put, List.getElem_toArray, List.getElem_cons_zero, List.getElem_cons_succ, List.setIfInBounds_toArray, List.set_cons_zero, List.set_cons_succ]
        refine wpAnyH_take (i := 10) (v := ?_) rfl (by kernel_rfl) (by kernel_rfl) (by kernel_rfl) (fun _ _ _ h => h) (Or.inl ⟨by rfl, ?_⟩) (by assumption) ?_
        rotate_left
        · (intro w hSw; (try dsimp only at hSw); go_simp; try (with_reducible rfl))
        try simp only [Act.put, List.getElem_toArray, List.getElem_cons_zero, List.getElem_cons_succ, List.setIfInBounds_toArray, List.set_cons_zero, List.set_cons_succ]
        refine wpAnyH_ready (rs := [11]) (by kernel_rfl) (by simp) ?_
        refine (AllReadyH.cons rfl (fun K hK => ?_) AllReadyH.nil)
        · refine step_call rfl 64 #[.agg #[.int .i64 (tn : Int), .int .i64 e.sk, .int .i64 e.tr.num, .int .i64 e.tr.x, .int .i64 e.tr.y, .int .i64 e.tr.co, .int .i64 e.tr.sp, .int .i64 e.tr.st, .int .i64 e.tr.ag], .agg #[.int .i64 (W tn).x, .int .i64 (W tn).y, .int .i64 (W tn).co, .int .i64 (W tn).sp], .int .i64 g] (by simp [go_sem]) (cd' _).out ?_
          rintro e' w4 ⟨rfl, b4⟩
          replace b4 := of_drew b4
          have HA4 := hide (HAA.out.below HGL.out b4)
          have HG4 := hide (Nat.lt_of_lt_of_le HGL.out b4.size)
          have HB4 := hide (lec HB.out b4)
          have HX4 := hide (HBX.out.below (HBX.out.lt (by simp [Ev])) b4)
          have zS4 := z8 HX4.out HTG.out (HTC.out.below HB4.out).wa htl
          clear b4
          obtain ⟨y0, y1, y2, y3, y4, y5, y6, y7, y8⟩ := (HA4.out.c i hin).ee
          have fa := HA4.out.f
          refine ⟨_, rfl, ?_⟩
          refine hK.out _ _ ?_ (fun hHeld => ?_)
          · (first | with_reducible exact zS | with_reducible exact zS4 | with_reducible exact zS5 | exact zS | exact zS4)
          clear hK K
          try simp only [Act.put, List.getElem_toArray, List.getElem_cons_zero, List.getElem_cons_succ, List.setIfInBounds_toArray, List.set_cons_zero, List.set_cons_succ]
          refine wpAnyH_take (i := 12) (v := ?_) rfl (by kernel_rfl) (by kernel_rfl) (by kernel_rfl) (fun _ _ _ h => h) (Or.inl ⟨by rfl, ?_⟩) (by assumption) ?_
          rotate_left
          · (intro w hSw; (try dsimp only at hSw); go_simp; try (with_reducible rfl))
          try simp only [Act.put, List.getElem_toArray, List.getElem_cons_zero, List.getElem_cons_succ, List.setIfInBounds_toArray, List.set_cons_zero, List.set_cons_succ]
          refine wpAnyH_ready (rs := [13]) (by kernel_rfl) (by simp) ?_
          refine (AllReadyH.cons rfl (fun K hK => ?_) AllReadyH.nil)
          · go_simp
            rw [show (((((((((w4.setCell ⟨ga, i * 9, none⟩ (.int .i64 s'.tg)).setCell ⟨ga, i * 9 + 1, none⟩ (.int .i64 s'.sk)).setCell ⟨ga, i * 9 + 2, none⟩ (.int .i64 s'.tr.num)).setCell ⟨ga, i * 9 + 3, none⟩ (.int .i64 s'.tr.x)).setCell ⟨ga, i * 9 + 4, none⟩ (.int .i64 s'.tr.y)).setCell ⟨ga, i * 9 + 5, none⟩ (.int .i64 s'.tr.co)).setCell ⟨ga, i * 9 + 6, none⟩ (.int .i64 s'.tr.sp)).setCell ⟨ga, i * 9 + 7, none⟩ (.int .i64 s'.tr.st)).setCell ⟨ga, i * 9 + 8, none⟩ (.int .i64 s'.tr.ag)) = w4.setCells ga (i * 9) (Ev s') from rfl]
            have HAF := hide (HA4.out.fill HG4.out hin s')
            have HB5 := hide (bel_setsE (vs := Ev s') (i * 9) HB4.out HGA.out)
            have HG5 := hide (Nat.lt_of_lt_of_le HG4.out HAF.out.2.ex.size)
            have HX5 := hide (HX4.out.keep HAF.out.2 (HX4.out.lt (by simp [Ev])) (.inl (Ne.symm HXG.out.1)))
            have zS5 := z8 HX5.out HTG.out (HTC.out.below HB5.out).wa htl
            clear y0 y1 y2 y3 y4 y5 y6 y7 y8 fa
            refine hK.out _ _ ?_ (fun hHeld => ?_)
            · (first | with_reducible exact zS | with_reducible exact zS4 | with_reducible exact zS5 | exact zS | exact zS4)
            clear hK K
            try simp only [Act.put, List.getElem_toArray, List.getElem_cons_zero, List.getElem_cons_succ, List.setIfInBounds_toArray, List.set_cons_zero, List.set_cons_succ]
            refine wpAnyH_done (by kernel_rfl) ?_ _
            clear zS zS4 zS5 cd'
            go_wp2
            first | refine HJ1.out _ _ ?rel (by kernel_rfl) rfl ?measure
            case rel => (try dsimp only [rdA, getL]); (exact ⟨i + 1, by omega, by simp, HAF.out.1.congr (fun k _ => by rw [← HNW.out]; exact obsA_succ _ _ _ _ _ _ k), HG5.out, HB5.out⟩)
            case measure => (try dsimp only [rdA, getL]); (simp [intOf]; omega)
      · have hgd : decide (0 < g) = false := by simp; omega
        obtain ⟨x0, x1, x2, x3, x4, x5, x6, x7, x8⟩ := HBX.out.ee
        simp only [Nat.zero_add] at x1 x2 x3 x4 x5 x6 x7 x8
        have cu := fun w h => hide (undetected_any w m X Y h e (HMI.out.ok.ok e HEM.out))
        obtain ⟨s', hs'⟩ : ∃ s, coastP X Y e = s := ⟨_, rfl⟩
        rw [hs'] at cu
        have HNW := hide (show obsS (fuseP D tm) W X Y (atM E i) = s' by rw [HOS.out, HOE.out, if_neg hg0, hs'])
        clear hs' hg0 HOE HOS
        go_wp2_with fail
        refine (cu _ (HTC.out.below HB.out).mt).out.mono ?_
        rintro e' w4 ⟨rfl, b4⟩
        clear x0 x1 x2 x3 x4 x5 x6 x7 x8 cu
        replace HAA := hide (HAA.out.below HGL.out b4)
        replace HGL := hide (Nat.lt_of_lt_of_le HGL.out b4.size)
        replace HB := hide (lec HB.out b4)
        clear b4
        obtain ⟨y0, y1, y2, y3, y4, y5, y6, y7, y8⟩ := (HAA.out.c i hin).ee
        have fa := HAA.out.f
        go_upto_region 4 with fail
        rw [show (((((((((w4.setCell ⟨ga, i * 9, none⟩ (.int .i64 s'.tg)).setCell ⟨ga, i * 9 + 1, none⟩ (.int .i64 s'.sk)).setCell ⟨ga, i * 9 + 2, none⟩ (.int .i64 s'.tr.num)).setCell ⟨ga, i * 9 + 3, none⟩ (.int .i64 s'.tr.x)).setCell ⟨ga, i * 9 + 4, none⟩ (.int .i64 s'.tr.y)).setCell ⟨ga, i * 9 + 5, none⟩ (.int .i64 s'.tr.co)).setCell ⟨ga, i * 9 + 6, none⟩ (.int .i64 s'.tr.sp)).setCell ⟨ga, i * 9 + 7, none⟩ (.int .i64 s'.tr.st)).setCell ⟨ga, i * 9 + 8, none⟩ (.int .i64 s'.tr.ag)) = w4.setCells ga (i * 9) (Ev s') from rfl]
        have HAF := hide (HAA.out.fill HGL.out hin s')
        have HB5 := hide (bel_setsE (vs := Ev s') (i * 9) HB.out HGA.out)
        have HG5 := hide (Nat.lt_of_lt_of_le HGL.out HAF.out.2.ex.size)
        clear HAA HB HGL y0 y1 y2 y3 y4 y5 y6 y7 y8 fa
        generalize w4.setCells ga (i * 9) (Ev s') = w5 at *
        go_wp2
        first | refine HJ1.out _ _ ?rel (by kernel_rfl) rfl ?measure
        case rel => (try dsimp only [rdA, getL]); (exact ⟨i + 1, by omega, by simp, HAF.out.1.congr (fun k _ => by rw [← HNW.out]; exact obsA_succ _ _ _ _ _ _ k), HG5.out, HB5.out⟩)
        case measure => (try dsimp only [rdA, getL]); (simp [intOf]; omega)
    · have hini : ¬ (i : Int) < (n : Int) := by omega
      replace HAA := hide (HAA.out.congr (A' := fun i => obsS (fuseP D tm) W X Y (atM E i)) (fun k hk => by unfold obsA; rw [if_pos (by omega)]))
      clear hin
      go_wp2
      refine HKK.out _ _ _ _ _ _ _ _ _ _ _ _ _ _ _ _ _ _ _ _ _ _ _ _ _ _ _ _ _ _ _ _ _ _ _ _ _ _ _ _ _ _ ?_
      exact ⟨HAA.out, HGL.out, HB.out⟩
end Go.Proofs.Qxb6500777a
