import Derived.Test.Qxb6500777aMt0
namespace Go.Proofs.Qxb6500777a
open Go.RowKit

set_option linter.unusedSimpArgs false in
set_option linter.unusedVariables false in
set_option maxRecDepth 1000000 in
set_option maxHeartbeats 400000000 in
theorem mt3 (w : World) (m mb o p : Nat) (tm : Int) (X Y : Nat → Int) (W : Nat → Tgt) (da : Option Addr) (nd cd : Nat) (D : List Det) (B : Nat) (a : Option Addr) (n c : Nat) (E : List Slt) (nx : Int) (hld : nd ≤ 1000000) (hx : 0 ≤ nx ∧ nx + 112 ≤ 1000000000) (h64 : n ≤ 64) (HMI : Hid (MI E nx)) (HTC : Hid (TC w m p X Y W da D)) (HND : Hid (nd = D.length)) (HWO : Hid (∀ (t : Nat), t < 112 → TgtOk (W t))) (HTN : Hid (TN m p mb da)) (HMB : Hid (mb < w.heap.size)) (HLN : Hid (n = E.length)) (HOB : Hid (∀ (s : Slt), s ∈ E → SltOk (obsS (fuseP D tm) W X Y s))) (i0 : TypeInfo) (HI : Hid (Try.prog.info? 113 = some i0 ∧ i0.zero = some (Value.agg #[Value.int IntKind.i64 0, Value.int IntKind.i64 0, Value.int IntKind.i64 0, Value.int IntKind.i64 0, Value.int IntKind.i64 0, Value.int IntKind.i64 0, Value.int IntKind.i64 0, Value.int IntKind.i64 0, Value.int IntKind.i64 0]) ∧ i0.size = 9 ∧ i0.bytes = 72)) (w1 : World) (ga : Nat) (HGA : Hid (w.heap.size ≤ ga)) (u12 u13 u14 u41 u42 u43 u44 u45 u46 u47 u48 u49 u50 u51 u52 u53 u54 u55 u56 u57 u58 u59 u60 u61 u62 u63 u64 u65 u66 u67 u68 u69 u70 u71 u72 u73 u74 u75 u76 u77 u78 : Value) (wc : World) (u15 u16 u79 u80 u81 u82 u83 u84 u85 u86 u87 u88 u89 u90 u91 u92 u93 u94 u95 u96 u97 u98 u99 u100 u101 u102 u103 u104 u105 u106 u107 u108 u109 u110 u111 u112 u113 u114 u115 u116 u117 u118 u119 u120 u121 u122 u123 u124 u125 u126 u127 u128 u129 u130 u131 u132 u133 u134 u135 u136 u137 u138 u139 u140 u141 u142 u143 u144 u145 u146 u147 u148 u149 u150 u151 u152 u153 u154 u155 u156 : Value) (wr : World) (S : Nat → Slt) (HSM : Hid (drN S n = dropM (setM (obsS (fuseP D tm) W X Y) E))) (HSO : Hid (∀ (x : Nat), x < n → SltOk (S x))) (HGM : Hid (ga ≠ mb)) (w12 : World) (HVR : Hid (VA w12 mb o w.heap.size none 0 0 [] nx ∧ Fr mb o 2 wr w12)) (HF : Hid (Fr mb o 2 w w12)) (HA : Hid (AA w12 ga n S)) (HG : Hid (ga < w12.heap.size)) (K' : Act → World → Prop) (QQ : Ending → World → Prop)
    (hK : ∀ (u17 u160 u161 u162 u163 u164 u165 u166 u167 u168 u169 u170 u171 u172 u173 u174 u175 u176 u177 u178 u179 u180 u181 u182 u183 u184 : Value) (w' : World), (∃ av cv, VA w' mb o w.heap.size av (drN S n).length cv (drN S n) nx ∧ Fr mb o 2 w w') → K' ⟨#[Value.pointer (some ⟨m, 0, none⟩), Value.pointer (some ⟨mb, o, none⟩), Value.int IntKind.i64 tm, Value.slice da nd cd, Value.pointer (some ⟨p, 0, none⟩), undef, undef, undef, undef, undef, Value.int IntKind.i64 ((n : Nat) : Int), Value.slice (some ⟨ga, 0, none⟩) n n, u12, u13, u14, u15, u16, u17, undef, undef, undef, undef, undef, undef, undef, undef, undef, undef, undef, undef, undef, undef, undef, undef, Value.pointer (some ⟨mb, o, none⟩), Value.pointer (some ⟨mb, o, none⟩), Value.pointer (some ⟨mb, o, none⟩), Value.slice a n c, Value.int IntKind.i64 ((n : Nat) : Int), Value.int IntKind.i64 ((n : Nat) : Int), Value.slice (some ⟨ga, 0, none⟩) n n, u41, u42, u43, u44, u45, u46, u47, u48, u49, u50, u51, u52, u53, u54, u55, u56, u57, u58, u59, u60, u61, u62, u63, u64, u65, u66, u67, u68, u69, u70, u71, u72, u73, u74, u75, u76, u77, u78, u79, u80, u81, u82, u83, u84, u85, u86, u87, u88, u89, u90, u91, u92, u93, u94, u95, u96, u97, u98, u99, u100, u101, u102, u103, u104, u105, u106, u107, u108, u109, u110, u111, u112, u113, u114, u115, u116, u117, u118, u119, u120, u121, u122, u123, u124, u125, u126, u127, u128, u129, u130, u131, u132, u133, u134, u135, u136, u137, u138, u139, u140, u141, u142, u143, u144, u145, u146, u147, u148, u149, u150, u151, u152, u153, u154, u155, u156, Value.pointer (some ⟨mb, o, none⟩), Value.pointer (some ⟨mb, o, none⟩), Value.pointer (some ⟨mb, o, none⟩), u160, u161, u162, u163, u164, u165, u166, u167, u168, u169, u170, u171, u172, u173, u174, u175, u176, u177, u178, u179, u180, u181, u182, u183, u184, undef, undef, undef, undef, undef, undef, undef, undef, undef, undef, undef, undef, undef, undef, undef, undef, undef, undef, undef, undef, undef, undef, undef, undef, undef, undef, undef, undef, undef, undef, undef, undef, undef, undef, undef, undef, undef, undef, undef, undef, undef, undef, undef, undef, undef, undef, undef, undef, undef, undef, undef, undef, undef, undef, undef, undef, undef, undef, undef, undef, undef, undef, undef, undef, undef, undef, undef, undef, undef, undef, undef, undef, undef, undef, undef, undef, undef, undef, undef, undef, undef, undef, undef, undef, undef, undef, undef, undef, undef, undef, undef, undef, undef, undef, undef, undef, undef, undef, undef, undef, undef, undef, undef, undef, undef, undef, undef, undef, undef, undef, undef, undef, undef, undef, undef, undef, undef, undef, undef, undef, undef, undef, undef, undef, undef, undef, undef, undef, undef, undef, undef, undef, undef, undef, undef, undef, undef, undef, undef, undef, undef, undef, undef, undef, undef, undef, undef, undef, undef, undef, undef, undef, undef, undef, undef, undef, undef, undef, undef, undef, undef, undef, undef, undef, undef, undef, undef, undef, undef, undef, undef, undef, undef, undef, undef, undef, undef, undef, undef, undef, undef, undef, undef, undef, undef, undef, undef, undef, undef, undef, undef, undef, undef, undef, undef, undef, undef, undef, undef, undef, undef, undef, undef, undef, undef, undef, undef, undef, undef, undef, undef, undef, undef, undef], []⟩ w') :
    Code.wp Try.prog (tblk 6) (Exit.then K' (bodyPost Try.prog Try.f44 QQ)) ⟨#[Value.pointer (some ⟨m, 0, none⟩), Value.pointer (some ⟨mb, o, none⟩), Value.int IntKind.i64 tm, Value.slice da nd cd, Value.pointer (some ⟨p, 0, none⟩), undef, undef, undef, undef, undef, Value.int IntKind.i64 ((n : Nat) : Int), Value.slice (some ⟨ga, 0, none⟩) n n, u12, u13, u14, u15, u16, Value.int IntKind.i64 0, undef, undef, undef, undef, undef, undef, undef, undef, undef, undef, undef, undef, undef, undef, undef, undef, Value.pointer (some ⟨mb, o, none⟩), Value.pointer (some ⟨mb, o, none⟩), Value.pointer (some ⟨mb, o, none⟩), Value.slice a n c, Value.int IntKind.i64 ((n : Nat) : Int), Value.int IntKind.i64 ((n : Nat) : Int), Value.slice (some ⟨ga, 0, none⟩) n n, u41, u42, u43, u44, u45, u46, u47, u48, u49, u50, u51, u52, u53, u54, u55, u56, u57, u58, u59, u60, u61, u62, u63, u64, u65, u66, u67, u68, u69, u70, u71, u72, u73, u74, u75, u76, u77, u78, u79, u80, u81, u82, u83, u84, u85, u86, u87, u88, u89, u90, u91, u92, u93, u94, u95, u96, u97, u98, u99, u100, u101, u102, u103, u104, u105, u106, u107, u108, u109, u110, u111, u112, u113, u114, u115, u116, u117, u118, u119, u120, u121, u122, u123, u124, u125, u126, u127, u128, u129, u130, u131, u132, u133, u134, u135, u136, u137, u138, u139, u140, u141, u142, u143, u144, u145, u146, u147, u148, u149, u150, u151, u152, u153, u154, u155, u156, Value.pointer (some ⟨mb, o, none⟩), Value.pointer (some ⟨mb, o, none⟩), Value.pointer (some ⟨mb, o, none⟩), undef, undef, undef, undef, undef, undef, undef, undef, undef, undef, undef, undef, undef, undef, undef, undef, undef, undef, undef, undef, undef, undef, undef, undef, undef, undef, undef, undef, undef, undef, undef, undef, undef, undef, undef, undef, undef, undef, undef, undef, undef, undef, undef, undef, undef, undef, undef, undef, undef, undef, undef, undef, undef, undef, undef, undef, undef, undef, undef, undef, undef, undef, undef, undef, undef, undef, undef, undef, undef, undef, undef, undef, undef, undef, undef, undef, undef, undef, undef, undef, undef, undef, undef, undef, undef, undef, undef, undef, undef, undef, undef, undef, undef, undef, undef, undef, undef, undef, undef, undef, undef, undef, undef, undef, undef, undef, undef, undef, undef, undef, undef, undef, undef, undef, undef, undef, undef, undef, undef, undef, undef, undef, undef, undef, undef, undef, undef, undef, undef, undef, undef, undef, undef, undef, undef, undef, undef, undef, undef, undef, undef, undef, undef, undef, undef, undef, undef, undef, undef, undef, undef, undef, undef, undef, undef, undef, undef, undef, undef, undef, undef, undef, undef, undef, undef, undef, undef, undef, undef, undef, undef, undef, undef, undef, undef, undef, undef, undef, undef, undef, undef, undef, undef, undef, undef, undef, undef, undef, undef, undef, undef, undef, undef, undef, undef, undef, undef, undef, undef, undef, undef, undef, undef, undef, undef, undef, undef, undef, undef, undef, undef, undef, undef, undef, undef, undef, undef, undef, undef, undef, undef, undef, undef, undef, undef, undef, undef, undef, undef, undef, undef, undef, undef, undef, undef, undef, undef, undef, undef], []⟩ w12 := by
  have HKK := hide hK
  clear hK
  conv => arg 2; whnf
  go_wp2
  refine wp_loop_mix [none, none, none, none, none, none, none, none, none, none, none, none, none, none, none, none, none, some 17, none, none, none, none, none, none, none, none, none, none, none, none, none, none, none, none, none, none, none, none, none, none, none, none, none, none, none, none, none, none, none, none, none, none, none, none, none, none, none, none, none, none, none, none, none, none, none, none, none, none, none, none, none, none, none, none, none, none, none, none, none, none, none, none, none, none, none, none, none, none, none, none, none, none, none, none, none, none, none, none, none, none, none, none, none, none, none, none, none, none, none, none, none, none, none, none, none, none, none, none, none, none, none, none, none, none, none, none, none, none, none, none, none, none, none, none, none, none, none, none, none, none, none, none, none, none, none, none, none, none, none, none, none, none, none, none, none, none, none, none, none, none, some 160, some 161, some 162, some 163, some 164, some 165, some 166, some 167, some 168, some 169, some 170, some 171, some 172, some 173, some 174, some 175, some 176, some 177, some 178, some 179, some 180, some 181, some 182, some 183, some 184, none, none, none, none, none, none, none, none, none, none, none, none, none, none, none, none, none, none, none, none, none, none, none, none, none, none, none, none, none, none, none, none, none, none, none, none, none, none, none, none, none, none, none, none, none, none, none, none, none, none, none, none, none, none, none, none, none, none, none, none, none, none, none, none, none, none, none, none, none, none, none, none, none, none, none, none, none, none, none, none, none, none, none, none, none, none, none, none, none, none, none, none, none, none, none, none, none, none, none, none, none, none, none, none, none, none, none, none, none, none, none, none, none, none, none, none, none, none, none, none, none, none, none, none, none, none, none, none, none, none, none, none, none, none, none, none, none, none, none, none, none, none, none, none, none, none, none, none, none, none, none, none, none, none, none, none, none, none, none, none, none, none, none, none, none, none, none, none, none, none, none, none, none, none, none, none, none, none, none, none, none, none, none, none, none, none, none, none, none, none, none, none, none, none, none, none, none, none, none, none, none, none, none, none, none, none, none, none, none, none, none, none, none, none] (by kernel_rfl) (fun us wy => (fun s17 wy => ∃ (i : Nat) (av : Option Addr) (cv : Nat), i ≤ n ∧ s17 = .int .i64 i ∧ VA wy mb o w.heap.size av (drN S i).length cv (drN S i) nx ∧ AA wy ga n S ∧ ga < wy.heap.size ∧ Fr mb o 2 w wy ∧ Hid ((Value.slice av (drN S i).length cv).ownBlock ≠ some ga)) (us 17) wy) (fun us wy => (fun s17 _ => n - (intOf s17).toNat) (us 17) wy) ?atStart ?round
  case atStart => (dsimp only [getL]; exact ⟨0, none, 0, by omega, rfl, HVR.out.1, HA.out, HG.out, HF.out, hide (by intro e; cases e)⟩)
  case round =>
    intro us wr hrel J4 hJ4
    dsimp only at hrel hJ4
    dsimp only [mixF]
    generalize us 17 = s17 at hrel hJ4 ⊢
    have HJ4 := hide hJ4
    clear hJ4
    clear HVR HA HG HF
    obtain ⟨i, av, cv, hi, rfl, hva, haa, hgl, hfr, HNE⟩ := hrel
    have HVr := hide hva
    have HA := hide haa
    have HG := hide hgl
    have HF := hide hfr
    clear hva haa hgl hfr
    by_cases hin : i < n
    · have hini : (i : Int) < (n : Int) := by omega
      have hi0' : decide ((i : Int) < 0) = false := by simp
      have HX := hide (drN_succ S i)
      have hVl := drN_len S i
      obtain ⟨V, hV⟩ : ∃ V, drN S i = V := ⟨_, rfl⟩
      rw [hV] at HX hVl HVr HNE
      clear hV
      obtain ⟨si, hsi⟩ : ∃ s, S i = s := ⟨_, rfl⟩
      have zS := HA.out.c i hin
      rw [hsi] at HX zS
      have HSI := hide hsi
      have y8 := zS.ee.2.2.2.2.2.2.2.2
      clear hsi
      by_cases hag : si.tr.ag < 30
      · have hagb : decide (si.tr.ag < 30) = true := by simpa using hag
        have HX1 := hide (show drN S (i + 1) = V ++ [si] by rw [HX.out, if_pos hag])
        clear HX hag
        go_upto_region 24 with fail
        clear y8
        replace zS := zS.drew
        have c0 := HVr.out.c0
        have cA := cellKeep (be1 wr (.cells #[.int .i64 si.tg, .int .i64 si.sk, .int .i64 si.tr.num, .int .i64 si.tr.x, .int .i64 si.tr.y, .int .i64 si.tr.co, .int .i64 si.tr.sp, .int .i64 si.tr.st, .int .i64 si.tr.ag] 113)) c0
        have zSA := ((HA.out.below HG.out (be1 wr (.cells #[.int .i64 si.tg, .int .i64 si.sk, .int .i64 si.tr.num, .int .i64 si.tr.x, .int .i64 si.tr.y, .int .i64 si.tr.co, .int .i64 si.tr.sp, .int .i64 si.tr.st, .int .i64 si.tr.ag] 113))).dr).c i hin
        rw [HSI.out] at zSA
        refine wp_region_held_drew (S := fun w' => RA w' ga (i * 9) (Ev si)) (by kernel_rfl) zS (fun hHeld => ?_)
        refine wpAnyH_take (i := 0) (v := ?_) rfl (by kernel_rfl) (by kernel_rfl) (by kernel_rfl) (fun _ _ _ h => h) (Or.inl ⟨by rfl, ?_⟩) (by assumption) ?_
        rotate_left
        · (intro w hSw; (try dsimp only at hSw); go_simp; try (with_reducible rfl))
        try simp only [Act.put, List.getElem_toArray, List.getElem_cons_zero, List.getElem_cons_succ, List.setIfInBounds_toArray, List.set_cons_zero, List.set_cons_succ]
        refine wpAnyH_take (i := 1) (v := ?_) rfl (by kernel_rfl) (by kernel_rfl) (by kernel_rfl) (fun _ _ _ h => h) (Or.inl ⟨by rfl, ?_⟩) (by assumption) ?_
        rotate_left
        · (intro w hSw; (try dsimp only at hSw); go_simp; try (with_reducible rfl))
        try simp only [Act.put, List.getElem_toArray, List.getElem_cons_zero, List.getElem_cons_succ, List.setIfInBounds_toArray, List.set_cons_zero, List.set_cons_succ]
        refine wpAnyH_take (i := 2) (v := ?_) rfl (by kernel_rfl) (by kernel_rfl) (by kernel_rfl) (fun _ _ _ h => h) (Or.inl ⟨by rfl, ?_⟩) (by assumption) ?_
        rotate_left
        · (intro w hSw; (try dsimp only at hSw); go_simp; try (with_reducible rfl))
        try simp only [Act.put, List.getElem_toArray, List.getElem_cons_zero, List.getElem_cons_succ, List.setIfInBounds_toArray, List.set_cons_zero, List.set_cons_succ]
        refine wpAnyH_take (i := 3) (v := ?_) rfl (by kernel_rfl) (by kernel_rfl) (by kernel_rfl) (fun _ _ _ h => h) (Or.inl ⟨by rfl, ?_⟩) (by assumption) ?_
        rotate_left
        · (intro w hSw; (try dsimp only at hSw); go_simp; try (with_reducible rfl))
        try simp only [Act.put, List.getElem_toArray, List.getElem_cons_zero, List.getElem_cons_succ, List.setIfInBounds_toArray, List.set_cons_zero, List.set_cons_succ]
        refine wpAnyH_take (i := 5) (v := ?_) rfl (by kernel_rfl) (by kernel_rfl) (by kernel_rfl) (fun _ _ _ h => h) (Or.inl ⟨by rfl, ?_⟩) (by assumption) ?_
        rotate_left
        · (intro w hSw; (try dsimp only at hSw); go_simp; try (with_reducible rfl))
        try simp only [Act.put, List.getElem_toArray, List.getElem_cons_zero, List.getElem_cons_succ, List.setIfInBounds_toArray, List.set_cons_zero, List.set_cons_succ]
        refine wpAnyH_take (i := 6) (v := ?_) rfl (by kernel_rfl) (by kernel_rfl) (by kernel_rfl) (fun _ _ _ h => h) (Or.inl ⟨by rfl, ?_⟩) (by assumption) ?_
        rotate_left
        · (intro w hSw; (try dsimp only at hSw); go_simp; try (with_reducible rfl))
        try simp only [Act.put, List.getElem_toArray, List.getElem_cons_zero, List.getElem_cons_succ, List.setIfInBounds_toArray, List.set_cons_zero, List.set_cons_succ]
        refine wpAnyH_take (i := 7) (v := ?_) rfl (by kernel_rfl) (by kernel_rfl) (by kernel_rfl) (fun _ _ _ h => h) (Or.inl ⟨by rfl, ?_⟩) (by assumption) ?_
        rotate_left
        · (intro w hSw; (try dsimp only at hSw); go_simp; try (with_reducible rfl))
        try simp only [Act.put, List.getElem_toArray, List.getElem_cons_zero, List.getElem_cons_succ, List.setIfInBounds_toArray, List.set_cons_zero, List.set_cons_succ]
        refine wpAnyH_take (i := 8) (v := ?_) rfl (by kernel_rfl) (by kernel_rfl) (by kernel_rfl) (fun _ _ _ h => h) (Or.inl ⟨by rfl, ?_⟩) (by assumption) ?_
        rotate_left
        · (intro w hSw; (try dsimp only at hSw); ((obtain ⟨z0, z1, z2, z3, z4, z5, z6, z7, z8⟩ := hSw.ee)); go_simp; try (with_reducible rfl))
        try simp only [Act.put, List.getElem_toArray, List.getElem_cons_zero, List.getElem_cons_succ, List.setIfInBounds_toArray, List.set_cons_zero, List.set_cons_succ]
        refine wpAnyH_ready (rs := [4, 9]) (by kernel_rfl) (by simp) ?_
        refine (AllReadyH.cons rfl (fun K hK => ?_) (AllReadyH.cons rfl (fun K hK => ?_) AllReadyH.nil))
        · go_simp
          refine hK.out _ _ ?_ (fun hHeld => ?_)
          · (first | with_reducible exact zS | with_reducible exact zSA | with_reducible exact zS2 | with_reducible exact zS3)
          clear hK K
          try simp only [Act.put, List.getElem_toArray, List.getElem_cons_zero, List.getElem_cons_succ, List.setIfInBounds_toArray, List.set_cons_zero, List.set_cons_succ]
          refine wpAnyH_ready (rs := [9]) (by kernel_rfl) (by simp) ?_
          refine (AllReadyH.cons rfl (fun K hK => ?_) AllReadyH.nil)
          · go_simp
            have HVA := hide ((HVr.out.below (be1 wr (.cells #[.int .i64 si.tg, .int .i64 si.sk, .int .i64 si.tr.num, .int .i64 si.tr.x, .int .i64 si.tr.y, .int .i64 si.tr.co, .int .i64 si.tr.sp, .int .i64 si.tr.st, .int .i64 si.tr.ag] 113))).below (dr_bel _))
            have HAB := hide ((HA.out.below HG.out (be1 wr (.cells #[.int .i64 si.tg, .int .i64 si.sk, .int .i64 si.tr.num, .int .i64 si.tr.x, .int .i64 si.tr.y, .int .i64 si.tr.co, .int .i64 si.tr.sp, .int .i64 si.tr.st, .int .i64 si.tr.ag] 113))).dr)
            have HGB := hide (Nat.lt_of_lt_of_le HG.out (be1 wr (.cells #[.int .i64 si.tg, .int .i64 si.sk, .int .i64 si.tr.num, .int .i64 si.tr.x, .int .i64 si.tr.y, .int .i64 si.tr.co, .int .i64 si.tr.sp, .int .i64 si.tr.st, .int .i64 si.tr.ag] 113)).size)
            have HFB := hide ((HF.out.bel HMB.out (be1 wr (.cells #[.int .i64 si.tg, .int .i64 si.sk, .int .i64 si.tr.num, .int .i64 si.tr.x, .int .i64 si.tr.y, .int .i64 si.tr.co, .int .i64 si.tr.sp, .int .i64 si.tr.st, .int .i64 si.tr.ag] 113))).bel HMB.out (dr_bel _))
            have HSZ := hide (show w.heap.size ≤ (wr.alloc (.cells #[.int .i64 si.tg, .int .i64 si.sk, .int .i64 si.tr.num, .int .i64 si.tr.x, .int .i64 si.tr.y, .int .i64 si.tr.co, .int .i64 si.tr.sp, .int .i64 si.tr.st, .int .i64 si.tr.ag] 113)).drew.heap.size from HFB.out.ex.size)
            refine hK.out _ _ ?_ (fun hHeld => ?_)
            · (first | with_reducible exact zS | with_reducible exact zSA | with_reducible exact zS2 | with_reducible exact zS3)
            clear hK K
            try simp only [Act.put, List.getElem_toArray, List.getElem_cons_zero, List.getElem_cons_succ, List.setIfInBounds_toArray, List.set_cons_zero, List.set_cons_succ]
            refine wpAnyH_ready (rs := [10]) (by kernel_rfl) (by simp) ?_
            refine (AllReadyH.cons rfl (fun K hK => ?_) AllReadyH.nil)
            · refine step_append_lies _ rfl (.tmp 176) (.tmp 181) 101 rfl w.heap.size 113 i0 _ 9 72 Try.underlying101 HI.out.1 HI.out.2.1 HI.out.2.2.1 HI.out.2.2.2 rfl (by decide) (.slice av V.length cv) V.length (V.flatMap Ev) rfl HVA.out.row ⟨wr.heap.size, 0, none⟩ 1 1 (Ev si) rfl rfl (fun j u hj => new_cells wr (Ev si) 113 j u hj) (Ev.one si) (by decide) (by unfold maxLen; omega) (by omega) HSZ.out _ rfl ?_
              intro g2 cap2 w2 hr hg hat hlt2
              have HNE2 := hide (show (Value.slice (some ⟨g2, 0, none⟩) (V.length + 1) cap2).ownBlock ≠ some ga from fun e => by
                have e2 : g2 = ga := by simpa [Value.ownBlock] using e
                rcases hat with z | z
                · exact HNE.out (by rw [z, e2])
                · have := HG.out; have : wr.heap.size < g2 := by rw [z]; simp
                  omega)
              have HEX := hide (Ex.ofGrown (S := fun k => (Value.slice av V.length cv).ownBlock = some k) hg (fun k e => e.symm))
              have HA2 := hide (HAB.out.ex HGB.out HEX.out HNE.out)
              have HF2 := hide (HFB.out.grown HMB.out hg (fun k e => (HVA.out.row.own e).1))
              have HR2 := hide (ERow.snoc hr)
              have HVP := hide (HVA.out.push HR2.out (by simp) hg)
              obtain ⟨d0, d1, df⟩ := HVA.out.kept HVA.out.nown hg
              have HG2 := hide (Nat.lt_of_lt_of_le HGB.out hg.size)
              have zS2 := HA2.out.c i hin
              rw [HSI.out] at zS2
              clear hr hg hat hlt2 HEX
              refine hK.out _ _ ?_ (fun hHeld => ?_)
              · (first | with_reducible exact zS | with_reducible exact zSA | with_reducible exact zS2 | with_reducible exact zS3)
              clear hK K
              try simp only [Act.put, List.getElem_toArray, List.getElem_cons_zero, List.getElem_cons_succ, List.setIfInBounds_toArray, List.set_cons_zero, List.set_cons_succ]
              refine wpAnyH_take (i := 11) (v := ?_) rfl (by kernel_rfl) (by kernel_rfl) (by kernel_rfl) (fun _ _ _ h => h) (Or.inl ⟨by rfl, ?_⟩) (by assumption) ?_
              rotate_left
              · (intro w hSw; (try dsimp only at hSw); go_simp; try (with_reducible rfl))
              try simp only [Act.put, List.getElem_toArray, List.getElem_cons_zero, List.getElem_cons_succ, List.setIfInBounds_toArray, List.set_cons_zero, List.set_cons_succ]
              refine wpAnyH_take (i := 12) (v := ?_) rfl (by kernel_rfl) (by kernel_rfl) (by kernel_rfl) (fun _ _ _ h => h) (Or.inl ⟨by rfl, ?_⟩) (by assumption) ?_
              rotate_left
              · (intro w hSw; (try dsimp only at hSw); go_simp; try (with_reducible rfl))
              try simp only [Act.put, List.getElem_toArray, List.getElem_cons_zero, List.getElem_cons_succ, List.setIfInBounds_toArray, List.set_cons_zero, List.set_cons_succ]
              refine wpAnyH_ready (rs := [13]) (by kernel_rfl) (by simp) ?_
              refine (AllReadyH.cons rfl (fun K hK => ?_) AllReadyH.nil)
              · go_simp
                have HF3 := hide (HF2.out.set (j := o) (by omega) (by omega) (.slice (some ⟨g2, 0, none⟩) (V.length + 1) cap2))
                have HA3 := hide (HA2.out.keep HG2.out ((Fr.refl mb o 2 w2).set (j := o) (by omega) (by omega) (.slice (some ⟨g2, 0, none⟩) (V.length + 1) cap2)) HGM.out)
                have HG3 := hide (Nat.lt_of_lt_of_le HG2.out ((Fr.refl mb o 2 w2).set (j := o) (by omega) (by omega) (.slice (some ⟨g2, 0, none⟩) (V.length + 1) cap2)).ex.size)
                have zS3 := HA3.out.c i hin
                rw [HSI.out] at zS3
                clear d0 d1 df
                refine hK.out _ _ ?_ (fun hHeld => ?_)
                · (first | with_reducible exact zS | with_reducible exact zSA | with_reducible exact zS2 | with_reducible exact zS3)
                clear hK K
                try simp only [Act.put, List.getElem_toArray, List.getElem_cons_zero, List.getElem_cons_succ, List.setIfInBounds_toArray, List.set_cons_zero, List.set_cons_succ]
                refine wpAnyH_done (by kernel_rfl) ?_ _
                clear zS zS2 zS3
                go_wp2
                first | refine HJ4.out _ _ ?rel (by kernel_rfl) rfl ?measure
                case rel => (try dsimp only [rdA, getL]); (exact ⟨i + 1, some ⟨g2, 0, none⟩, cap2, by omega, by simp, by rw [HX1.out, List.length_append]; exact HVP.out, HA3.out, HG3.out, HF3.out, hide (by rw [HX1.out, List.length_append]; exact HNE2.out)⟩)
                case measure => (try dsimp only [rdA, getL]); (simp [intOf]; omega)
        · go_simp
          have HVA := hide ((HVr.out.below (be1 wr (.cells #[.int .i64 si.tg, .int .i64 si.sk, .int .i64 si.tr.num, .int .i64 si.tr.x, .int .i64 si.tr.y, .int .i64 si.tr.co, .int .i64 si.tr.sp, .int .i64 si.tr.st, .int .i64 si.tr.ag] 113))).below (dr_bel _))
          have HAB := hide ((HA.out.below HG.out (be1 wr (.cells #[.int .i64 si.tg, .int .i64 si.sk, .int .i64 si.tr.num, .int .i64 si.tr.x, .int .i64 si.tr.y, .int .i64 si.tr.co, .int .i64 si.tr.sp, .int .i64 si.tr.st, .int .i64 si.tr.ag] 113))).dr)
          have HGB := hide (Nat.lt_of_lt_of_le HG.out (be1 wr (.cells #[.int .i64 si.tg, .int .i64 si.sk, .int .i64 si.tr.num, .int .i64 si.tr.x, .int .i64 si.tr.y, .int .i64 si.tr.co, .int .i64 si.tr.sp, .int .i64 si.tr.st, .int .i64 si.tr.ag] 113)).size)
          have HFB := hide ((HF.out.bel HMB.out (be1 wr (.cells #[.int .i64 si.tg, .int .i64 si.sk, .int .i64 si.tr.num, .int .i64 si.tr.x, .int .i64 si.tr.y, .int .i64 si.tr.co, .int .i64 si.tr.sp, .int .i64 si.tr.st, .int .i64 si.tr.ag] 113))).bel HMB.out (dr_bel _))
          have HSZ := hide (show w.heap.size ≤ (wr.alloc (.cells #[.int .i64 si.tg, .int .i64 si.sk, .int .i64 si.tr.num, .int .i64 si.tr.x, .int .i64 si.tr.y, .int .i64 si.tr.co, .int .i64 si.tr.sp, .int .i64 si.tr.st, .int .i64 si.tr.ag] 113)).drew.heap.size from HFB.out.ex.size)
          refine hK.out _ _ ?_ (fun hHeld => ?_)
          · (first | with_reducible exact zS | with_reducible exact zSA | with_reducible exact zS2 | with_reducible exact zS3)
          clear hK K
          try simp only [Act.put, List.getElem_toArray, List.getElem_cons_zero, List.getElem_cons_succ, List.setIfInBounds_toArray, List.set_cons_zero, List.set_cons_succ]
          refine wpAnyH_ready (rs := [4]) (by kernel_rfl) (by simp) ?_
          refine (AllReadyH.cons rfl (fun K hK => ?_) AllReadyH.nil)
          · go_simp
            refine hK.out _ _ ?_ (fun hHeld => ?_)
            · (first | with_reducible exact zS | with_reducible exact zSA | with_reducible exact zS2 | with_reducible exact zS3)
            clear hK K
            try simp only [Act.put, List.getElem_toArray, List.getElem_cons_zero, List.getElem_cons_succ, List.setIfInBounds_toArray, List.set_cons_zero, List.set_cons_succ]
            refine wpAnyH_ready (rs := [10]) (by kernel_rfl) (by simp) ?_
            refine (AllReadyH.cons rfl (fun K hK => ?_) AllReadyH.nil)
            · refine step_append_lies _ rfl (.tmp 176) (.tmp 181) 101 rfl w.heap.size 113 i0 _ 9 72 Try.underlying101 HI.out.1 HI.out.2.1 HI.out.2.2.1 HI.out.2.2.2 rfl (by decide) (.slice av V.length cv) V.length (V.flatMap Ev) rfl HVA.out.row ⟨wr.heap.size, 0, none⟩ 1 1 (Ev si) rfl rfl (fun j u hj => new_cells wr (Ev si) 113 j u hj) (Ev.one si) (by decide) (by unfold maxLen; omega) (by omega) HSZ.out _ rfl ?_
              intro g2 cap2 w2 hr hg hat hlt2
              have HNE2 := hide (show (Value.slice (some ⟨g2, 0, none⟩) (V.length + 1) cap2).ownBlock ≠ some ga from fun e => by
                have e2 : g2 = ga := by simpa [Value.ownBlock] using e
                rcases hat with z | z
                · exact HNE.out (by rw [z, e2])
                · have := HG.out; have : wr.heap.size < g2 := by rw [z]; simp
                  omega)
              have HEX := hide (Ex.ofGrown (S := fun k => (Value.slice av V.length cv).ownBlock = some k) hg (fun k e => e.symm))
              have HA2 := hide (HAB.out.ex HGB.out HEX.out HNE.out)
              have HF2 := hide (HFB.out.grown HMB.out hg (fun k e => (HVA.out.row.own e).1))
              have HR2 := hide (ERow.snoc hr)
              have HVP := hide (HVA.out.push HR2.out (by simp) hg)
              obtain ⟨d0, d1, df⟩ := HVA.out.kept HVA.out.nown hg
              have HG2 := hide (Nat.lt_of_lt_of_le HGB.out hg.size)
              have zS2 := HA2.out.c i hin
              rw [HSI.out] at zS2
              clear hr hg hat hlt2 HEX
              refine hK.out _ _ ?_ (fun hHeld => ?_)
              · (first | with_reducible exact zS | with_reducible exact zSA | with_reducible exact zS2 | with_reducible exact zS3)
              clear hK K
              try simp only [Act.put, List.getElem_toArray, List.getElem_cons_zero, List.getElem_cons_succ, List.setIfInBounds_toArray, List.set_cons_zero, List.set_cons_succ]
              refine wpAnyH_take (i := 11) (v := ?_) rfl (by kernel_rfl) (by kernel_rfl) (by kernel_rfl) (fun _ _ _ h => h) (Or.inl ⟨by rfl, ?_⟩) (by assumption) ?_
              rotate_left
              · (intro w hSw; (try dsimp only at hSw); go_simp; try (with_reducible rfl))
              try simp only [Act.put, List.getElem_toArray, List.getElem_cons_zero, List.getElem_cons_succ, List.setIfInBounds_toArray, List.set_cons_zero, List.set_cons_succ]
              refine wpAnyH_take (i := 12) (v := ?_) rfl (by kernel_rfl) (by kernel_rfl) (by kernel_rfl) (fun _ _ _ h => h) (Or.inl ⟨by rfl, ?_⟩) (by assumption) ?_
              rotate_left
              · (intro w hSw; (try dsimp only at hSw); go_simp; try (with_reducible rfl))
              try simp only [Act.put, List.getElem_toArray, List.getElem_cons_zero, List.getElem_cons_succ, List.setIfInBounds_toArray, List.set_cons_zero, List.set_cons_succ]
              refine wpAnyH_ready (rs := [13]) (by kernel_rfl) (by simp) ?_
              refine (AllReadyH.cons rfl (fun K hK => ?_) AllReadyH.nil)
              · go_simp
                have HF3 := hide (HF2.out.set (j := o) (by omega) (by omega) (.slice (some ⟨g2, 0, none⟩) (V.length + 1) cap2))
                have HA3 := hide (HA2.out.keep HG2.out ((Fr.refl mb o 2 w2).set (j := o) (by omega) (by omega) (.slice (some ⟨g2, 0, none⟩) (V.length + 1) cap2)) HGM.out)
                have HG3 := hide (Nat.lt_of_lt_of_le HG2.out ((Fr.refl mb o 2 w2).set (j := o) (by omega) (by omega) (.slice (some ⟨g2, 0, none⟩) (V.length + 1) cap2)).ex.size)
                have zS3 := HA3.out.c i hin
                rw [HSI.out] at zS3
                clear d0 d1 df
                refine hK.out _ _ ?_ (fun hHeld => ?_)
                · (first | with_reducible exact zS | with_reducible exact zSA | with_reducible exact zS2 | with_reducible exact zS3)
                clear hK K
                try simp only [Act.put, List.getElem_toArray, List.getElem_cons_zero, List.getElem_cons_succ, List.setIfInBounds_toArray, List.set_cons_zero, List.set_cons_succ]
                refine wpAnyH_done (by kernel_rfl) ?_ _
                clear zS zS2 zS3
                go_wp2
                first | refine HJ4.out _ _ ?rel (by kernel_rfl) rfl ?measure
                case rel => (try dsimp only [rdA, getL]); (exact ⟨i + 1, some ⟨g2, 0, none⟩, cap2, by omega, by simp, by rw [HX1.out, List.length_append]; exact HVP.out, HA3.out, HG3.out, HF3.out, hide (by rw [HX1.out, List.length_append]; exact HNE2.out)⟩)
                case measure => (try dsimp only [rdA, getL]); (simp [intOf]; omega)
      · have hagb : decide (si.tr.ag < 30) = false := by simpa using hag
        have HX1 := hide (show drN S (i + 1) = V by rw [HX.out, if_neg hag, List.append_nil])
        clear HX hag
        go_wp2
        first | refine HJ4.out _ _ ?rel (by kernel_rfl) rfl ?measure
        case rel => (try dsimp only [rdA, getL]); (exact ⟨i + 1, av, cv, by omega, by simp, by rw [HX1.out]; exact HVr.out, HA.out, HG.out, HF.out, hide (by rw [HX1.out]; exact HNE.out)⟩)
        case measure => (try dsimp only [rdA, getL]); (simp [intOf]; omega)
    · have hini : ¬ (i : Int) < (n : Int) := by omega
      have hie : i = n := by omega
      rw [hie] at HVr
      go_wp2
      refine HKK.out _ _ _ _ _ _ _ _ _ _ _ _ _ _ _ _ _ _ _ _ _ _ _ _ _ _ _ ?_
      exact ⟨av, cv, HVr.out, HF.out⟩
end Go.Proofs.Qxb6500777a
