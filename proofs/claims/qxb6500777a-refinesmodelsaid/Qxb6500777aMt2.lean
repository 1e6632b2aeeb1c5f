import Derived.Test.Qxb6500777aMt0
namespace Go.Proofs.Qxb6500777a
open Go.RowKit

set_option linter.unusedSimpArgs false in
set_option linter.unusedVariables false in
set_option maxRecDepth 1000000 in
set_option maxHeartbeats 400000000 in
theorem mt2 (w : World) (m mb o p : Nat) (tm : Int) (X Y : Nat → Int) (W : Nat → Tgt) (da : Option Addr) (nd cd : Nat) (D : List Det) (B : Nat) (a : Option Addr) (n c : Nat) (E : List Slt) (nx : Int) (hld : nd ≤ 1000000) (hx : 0 ≤ nx ∧ nx + 112 ≤ 1000000000) (h64 : n ≤ 64) (HV : Hid (VA w mb o B a n c E nx)) (HMI : Hid (MI E nx)) (HTC : Hid (TC w m p X Y W da D)) (HND : Hid (nd = D.length)) (HWO : Hid (∀ (t : Nat), t < 112 → TgtOk (W t))) (HTN : Hid (TN m p mb da)) (HMB : Hid (mb < w.heap.size)) (HLN : Hid (n = E.length)) (HOB : Hid (∀ (s : Slt), s ∈ E → SltOk (obsS (fuseP D tm) W X Y s))) (i0 : TypeInfo) (HI : Hid (Try.prog.info? 113 = some i0 ∧ i0.zero = some (Value.agg #[Value.int IntKind.i64 0, Value.int IntKind.i64 0, Value.int IntKind.i64 0, Value.int IntKind.i64 0, Value.int IntKind.i64 0, Value.int IntKind.i64 0, Value.int IntKind.i64 0, Value.int IntKind.i64 0, Value.int IntKind.i64 0]) ∧ i0.size = 9 ∧ i0.bytes = 72)) (w1 : World) (ga : Nat) (HGA : Hid (w.heap.size ≤ ga)) (wc : World) (u12 u13 u14 u41 u42 u43 u44 u45 u46 u47 u48 u49 u50 u51 u52 u53 u54 u55 u56 u57 u58 u59 u60 u61 u62 u63 u64 u65 u66 u67 u68 u69 u70 u71 u72 u73 u74 u75 u76 u77 u78 : Value) (HAA : Hid (AA wc ga n fun i => obsS (fuseP D tm) W X Y (atM E i))) (HGL : Hid (ga < wc.heap.size)) (HB : Hid (Below w.heap.size w wc)) (K' : Act → World → Prop) (QQ : Ending → World → Prop)
    (hK : ∀ (u15 u16 u79 u80 u81 u82 u83 u84 u85 u86 u87 u88 u89 u90 u91 u92 u93 u94 u95 u96 u97 u98 u99 u100 u101 u102 u103 u104 u105 u106 u107 u108 u109 u110 u111 u112 u113 u114 u115 u116 u117 u118 u119 u120 u121 u122 u123 u124 u125 u126 u127 u128 u129 u130 u131 u132 u133 u134 u135 u136 u137 u138 u139 u140 u141 u142 u143 u144 u145 u146 u147 u148 u149 u150 u151 u152 u153 u154 u155 u156 : Value) (w' : World), (AA w' ga n (passM (atM E) n n fun i => obsS (fuseP D tm) W X Y (atM E i)) ∧ ga < w'.heap.size ∧ Below w.heap.size w w') → K' ⟨#[Value.pointer (some ⟨m, 0, none⟩), Value.pointer (some ⟨mb, o, none⟩), Value.int IntKind.i64 tm, Value.slice da nd cd, Value.pointer (some ⟨p, 0, none⟩), undef, undef, undef, undef, undef, Value.int IntKind.i64 ((n : Nat) : Int), Value.slice (some ⟨ga, 0, none⟩) n n, u12, u13, u14, u15, u16, undef, undef, undef, undef, undef, undef, undef, undef, undef, undef, undef, undef, undef, undef, undef, undef, undef, Value.pointer (some ⟨mb, o, none⟩), Value.pointer (some ⟨mb, o, none⟩), Value.pointer (some ⟨mb, o, none⟩), Value.slice a n c, Value.int IntKind.i64 ((n : Nat) : Int), Value.int IntKind.i64 ((n : Nat) : Int), Value.slice (some ⟨ga, 0, none⟩) n n, u41, u42, u43, u44, u45, u46, u47, u48, u49, u50, u51, u52, u53, u54, u55, u56, u57, u58, u59, u60, u61, u62, u63, u64, u65, u66, u67, u68, u69, u70, u71, u72, u73, u74, u75, u76, u77, u78, u79, u80, u81, u82, u83, u84, u85, u86, u87, u88, u89, u90, u91, u92, u93, u94, u95, u96, u97, u98, u99, u100, u101, u102, u103, u104, u105, u106, u107, u108, u109, u110, u111, u112, u113, u114, u115, u116, u117, u118, u119, u120, u121, u122, u123, u124, u125, u126, u127, u128, u129, u130, u131, u132, u133, u134, u135, u136, u137, u138, u139, u140, u141, u142, u143, u144, u145, u146, u147, u148, u149, u150, u151, u152, u153, u154, u155, u156, undef, undef, undef, undef, undef, undef, undef, undef, undef, undef, undef, undef, undef, undef, undef, undef, undef, undef, undef, undef, undef, undef, undef, undef, undef, undef, undef, undef, undef, undef, undef, undef, undef, undef, undef, undef, undef, undef, undef, undef, undef, undef, undef, undef, undef, undef, undef, undef, undef, undef, undef, undef, undef, undef, undef, undef, undef, undef, undef, undef, undef, undef, undef, undef, undef, undef, undef, undef, undef, undef, undef, undef, undef, undef, undef, undef, undef, undef, undef, undef, undef, undef, undef, undef, undef, undef, undef, undef, undef, undef, undef, undef, undef, undef, undef, undef, undef, undef, undef, undef, undef, undef, undef, undef, undef, undef, undef, undef, undef, undef, undef, undef, undef, undef, undef, undef, undef, undef, undef, undef, undef, undef, undef, undef, undef, undef, undef, undef, undef, undef, undef, undef, undef, undef, undef, undef, undef, undef, undef, undef, undef, undef, undef, undef, undef, undef, undef, undef, undef, undef, undef, undef, undef, undef, undef, undef, undef, undef, undef, undef, undef, undef, undef, undef, undef, undef, undef, undef, undef, undef, undef, undef, undef, undef, undef, undef, undef, undef, undef, undef, undef, undef, undef, undef, undef, undef, undef, undef, undef, undef, undef, undef, undef, undef, undef, undef, undef, undef, undef, undef, undef, undef, undef, undef, undef, undef, undef, undef, undef, undef, undef, undef, undef, undef, undef, undef, undef, undef, undef, undef, undef, undef, undef, undef, undef, undef, undef, undef, undef, undef, undef, undef, undef, undef, undef, undef, undef, undef, undef, undef, undef, undef], []⟩ w') :
    Code.wp Try.prog (tblk 2) (Exit.then K' (bodyPost Try.prog Try.f44 QQ)) ⟨#[Value.pointer (some ⟨m, 0, none⟩), Value.pointer (some ⟨mb, o, none⟩), Value.int IntKind.i64 tm, Value.slice da nd cd, Value.pointer (some ⟨p, 0, none⟩), undef, undef, undef, undef, undef, Value.int IntKind.i64 ((n : Nat) : Int), Value.slice (some ⟨ga, 0, none⟩) n n, u12, u13, u14, Value.int IntKind.i64 0, undef, undef, undef, undef, undef, undef, undef, undef, undef, undef, undef, undef, undef, undef, undef, undef, undef, undef, Value.pointer (some ⟨mb, o, none⟩), Value.pointer (some ⟨mb, o, none⟩), Value.pointer (some ⟨mb, o, none⟩), Value.slice a n c, Value.int IntKind.i64 ((n : Nat) : Int), Value.int IntKind.i64 ((n : Nat) : Int), Value.slice (some ⟨ga, 0, none⟩) n n, u41, u42, u43, u44, u45, u46, u47, u48, u49, u50, u51, u52, u53, u54, u55, u56, u57, u58, u59, u60, u61, u62, u63, u64, u65, u66, u67, u68, u69, u70, u71, u72, u73, u74, u75, u76, u77, u78, undef, undef, undef, undef, undef, undef, undef, undef, undef, undef, undef, undef, undef, undef, undef, undef, undef, undef, undef, undef, undef, undef, undef, undef, undef, undef, undef, undef, undef, undef, undef, undef, undef, undef, undef, undef, undef, undef, undef, undef, undef, undef, undef, undef, undef, undef, undef, undef, undef, undef, undef, undef, undef, undef, undef, undef, undef, undef, undef, undef, undef, undef, undef, undef, undef, undef, undef, undef, undef, undef, undef, undef, undef, undef, undef, undef, undef, undef, undef, undef, undef, undef, undef, undef, undef, undef, undef, undef, undef, undef, undef, undef, undef, undef, undef, undef, undef, undef, undef, undef, undef, undef, undef, undef, undef, undef, undef, undef, undef, undef, undef, undef, undef, undef, undef, undef, undef, undef, undef, undef, undef, undef, undef, undef, undef, undef, undef, undef, undef, undef, undef, undef, undef, undef, undef, undef, undef, undef, undef, undef, undef, undef, undef, undef, undef, undef, undef, undef, undef, undef, undef, undef, undef, undef, undef, undef, undef, undef, undef, undef, undef, undef, undef, undef, undef, undef, undef, undef, undef, undef, undef, undef, undef, undef, undef, undef, undef, undef, undef, undef, undef, undef, undef, undef, undef, undef, undef, undef, undef, undef, undef, undef, undef, undef, undef, undef, undef, undef, undef, undef, undef, undef, undef, undef, undef, undef, undef, undef, undef, undef, undef, undef, undef, undef, undef, undef, undef, undef, undef, undef, undef, undef, undef, undef, undef, undef, undef, undef, undef, undef, undef, undef, undef, undef, undef, undef, undef, undef, undef, undef, undef, undef, undef, undef, undef, undef, undef, undef, undef, undef, undef, undef, undef, undef, undef, undef, undef, undef, undef, undef, undef, undef, undef, undef, undef, undef, undef, undef, undef, undef, undef, undef, undef, undef, undef, undef, undef, undef, undef, undef, undef, undef, undef, undef, undef, undef, undef, undef, undef, undef, undef, undef, undef, undef, undef, undef, undef, undef, undef, undef, undef, undef, undef, undef, undef, undef, undef, undef, undef, undef, undef, undef, undef, undef, undef, undef, undef, undef, undef, undef], []⟩ wc := by
  have HKK := hide hK
  clear hK
  conv => arg 2; whnf
  go_wp2
  refine wp_loop_mix [none, none, none, none, none, none, none, none, none, none, none, none, none, none, none, some 15, some 16, none, none, none, none, none, none, none, none, none, none, none, none, none, none, none, none, none, none, none, none, none, none, none, none, none, none, none, none, none, none, none, none, none, none, none, none, none, none, none, none, none, none, none, none, none, none, none, none, none, none, none, none, none, none, none, none, none, none, none, none, none, none, some 79, some 80, some 81, some 82, some 83, some 84, some 85, some 86, some 87, some 88, some 89, some 90, some 91, some 92, some 93, some 94, some 95, some 96, some 97, some 98, some 99, some 100, some 101, some 102, some 103, some 104, some 105, some 106, some 107, some 108, some 109, some 110, some 111, some 112, some 113, some 114, some 115, some 116, some 117, some 118, some 119, some 120, some 121, some 122, some 123, some 124, some 125, some 126, some 127, some 128, some 129, some 130, some 131, some 132, some 133, some 134, some 135, some 136, some 137, some 138, some 139, some 140, some 141, some 142, some 143, some 144, some 145, some 146, some 147, some 148, some 149, some 150, some 151, some 152, some 153, some 154, some 155, some 156, none, none, none, none, none, none, none, none, none, none, none, none, none, none, none, none, none, none, none, none, none, none, none, none, none, none, none, none, none, none, none, none, none, none, none, none, none, none, none, none, none, none, none, none, none, none, none, none, none, none, none, none, none, none, none, none, none, none, none, none, none, none, none, none, none, none, none, none, none, none, none, none, none, none, none, none, none, none, none, none, none, none, none, none, none, none, none, none, none, none, none, none, none, none, none, none, none, none, none, none, none, none, none, none, none, none, none, none, none, none, none, none, none, none, none, none, none, none, none, none, none, none, none, none, none, none, none, none, none, none, none, none, none, none, none, none, none, none, none, none, none, none, none, none, none, none, none, none, none, none, none, none, none, none, none, none, none, none, none, none, none, none, none, none, none, none, none, none, none, none, none, none, none, none, none, none, none, none, none, none, none, none, none, none, none, none, none, none, none, none, none, none, none, none, none, none, none, none, none, none, none, none, none, none, none, none, none, none, none, none, none, none, none, none, none, none, none, none, none, none, none, none, none, none, none, none, none, none, none, none, none, none, none, none, none, none, none, none, none, none, none, none] (by kernel_rfl) (fun us wy => (fun s15 _ wy => ∃ i : Nat, i ≤ n ∧ s15 = .int .i64 i ∧ AA wy ga n (passM (atM E) n i (fun i => obsS (fuseP D tm) W X Y (atM E i))) ∧ ga < wy.heap.size ∧ Below w.heap.size w wy) (us 15) (us 16) wy) (fun us wy => (fun s15 _ _ => n - (intOf s15).toNat) (us 15) (us 16) wy) ?atStart ?round
  case atStart => (dsimp only [getL]; exact ⟨0, by omega, rfl, HAA.out, HGL.out, HB.out⟩)
  case round =>
    intro us wr hrel J2 hJ2
    dsimp only at hrel hJ2
    dsimp only [mixF]
    generalize us 15 = s15 at hrel hJ2 ⊢
    have HJ2 := hide hJ2
    clear hJ2
    clear HAA HGL HB
    obtain ⟨i, hi, rfl, haa, hgl, hb⟩ := hrel
    have HA := hide haa
    have HG := hide hgl
    have HB := hide hb
    clear haa hgl hb
    by_cases hin : i < n
    · have hini : (i : Int) < (n : Int) := by omega
      have hi0' : decide ((i : Int) < 0) = false := by simp
      have hw1 : IntKind.i64.wrap ((i : Int) + 1) = (i : Int) + 1 := by rw [IntKind.wrap_i64]; omega
      have HPM := hide ((PM.first (obs := obsS (fuseP D tm) W X Y) (E := atM E) (n := n) (fun i _ => (obs_same (fuseP D tm) W X Y _).2.2)).pass i (by omega))
      have HPS := hide (show passM (atM E) n (i + 1) (fun i => obsS (fuseP D tm) W X Y (atM E i)) = rowM (atM E) i (n - 1 - i) (passM (atM E) n i (fun i => obsS (fuseP D tm) W X Y (atM E i))) from rfl)
      obtain ⟨P, hP⟩ : ∃ P, passM (atM E) n i (fun i => obsS (fuseP D tm) W X Y (atM E i)) = P := ⟨_, rfl⟩
      rw [hP] at HA HPM HPS
      clear hP
      go_upto_region 13 with fail
      go_wp2
      refine wp_loop_mix [none, none, none, none, none, none, none, none, none, none, none, none, none, none, none, none, some 16, none, none, none, none, none, none, none, none, none, none, none, none, none, none, none, none, none, none, none, none, none, none, none, none, none, none, none, none, none, none, none, none, none, none, none, none, none, none, none, none, none, none, none, none, none, none, none, none, none, none, none, none, none, none, none, none, none, none, none, none, none, none, none, none, none, none, none, none, none, some 86, some 87, some 88, some 89, some 90, some 91, some 92, some 93, some 94, some 95, some 96, some 97, some 98, some 99, some 100, some 101, some 102, some 103, some 104, some 105, some 106, some 107, some 108, some 109, some 110, some 111, some 112, some 113, some 114, some 115, some 116, some 117, some 118, some 119, some 120, some 121, some 122, some 123, some 124, some 125, some 126, some 127, some 128, some 129, some 130, some 131, some 132, some 133, some 134, some 135, some 136, some 137, some 138, some 139, some 140, some 141, some 142, some 143, some 144, some 145, some 146, some 147, some 148, some 149, some 150, some 151, some 152, some 153, some 154, some 155, some 156, none, none, none, none, none, none, none, none, none, none, none, none, none, none, none, none, none, none, none, none, none, none, none, none, none, none, none, none, none, none, none, none, none, none, none, none, none, none, none, none, none, none, none, none, none, none, none, none, none, none, none, none, none, none, none, none, none, none, none, none, none, none, none, none, none, none, none, none, none, none, none, none, none, none, none, none, none, none, none, none, none, none, none, none, none, none, none, none, none, none, none, none, none, none, none, none, none, none, none, none, none, none, none, none, none, none, none, none, none, none, none, none, none, none, none, none, none, none, none, none, none, none, none, none, none, none, none, none, none, none, none, none, none, none, none, none, none, none, none, none, none, none, none, none, none, none, none, none, none, none, none, none, none, none, none, none, none, none, none, none, none, none, none, none, none, none, none, none, none, none, none, none, none, none, none, none, none, none, none, none, none, none, none, none, none, none, none, none, none, none, none, none, none, none, none, none, none, none, none, none, none, none, none, none, none, none, none, none, none, none, none, none, none, none, none, none, none, none, none, none, none, none, none, none, none, none, none, none, none, none, none, none, none, none, none, none, none, none, none, none, none, none] (by kernel_rfl) (fun us wy => (fun s16 wy => ∃ (j mm : Nat), Hid (j = i + 1 + mm) ∧ j ≤ n ∧ s16 = .int .i64 j ∧ AA wy ga n (rowM (atM E) i mm P) ∧ ga < wy.heap.size ∧ Below w.heap.size w wy) (us 16) wy) (fun us wy => (fun s16 _ => n - (intOf s16).toNat) (us 16) wy) ?atStart ?round
      case atStart => (dsimp only [getL]; exact ⟨i + 1, 0, hide (by omega), by omega, by simp, HA.out, HG.out, HB.out⟩)
      case round =>
        intro us wr hrel J3 hJ3
        dsimp only at hrel hJ3
        dsimp only [mixF]
        generalize us 16 = s16 at hrel hJ3 ⊢
        have HJ3 := hide hJ3
        clear hJ3
        clear HA HG HB
        obtain ⟨j, mm, HJ, hj, rfl, haa, hgl, hb⟩ := hrel
        have HA := hide haa
        have HG := hide hgl
        have HB := hide hb
        clear haa hgl hb
        by_cases hjn : j < n
        · have hjni : (j : Int) < (n : Int) := by omega
          have hj0' : decide ((j : Int) < 0) = false := by simp
          have HIJ := hide (show i ≠ j by have := HJ.out; omega)
          have HRW := hide (show rowM (atM E) i (mm + 1) P = pairM (atM E) i j (rowM (atM E) i mm P) by rw [HJ.out]; rfl)
          have HPR := hide (HPM.out.row hin mm (by have := HJ.out; omega))
          obtain ⟨A, hA⟩ : ∃ A, rowM (atM E) i mm P = A := ⟨_, rfl⟩
          rw [hA] at HA HRW HPR
          clear hA
          have HOA := hide (show ∀ x, x < n → SltOk (A x) from fun x hx => by
            obtain ⟨y, hy, _, e⟩ := HPR.out.of x hx
            rw [e]
            exact numd_ok (HOB.out _ (atM_mem.2 ⟨y, by rw [← HLN.out]; exact hy, rfl⟩)) (HMI.out.ok.ok _ (atM_mem.2 ⟨x, by rw [← HLN.out]; exact hx, rfl⟩)).tr.num)
          obtain ⟨ei, hei⟩ : ∃ e, E[i]? = some e := ⟨_, List.getElem?_eq_getElem (by have := HLN.out; omega)⟩
          obtain ⟨ej, hej⟩ : ∃ e, E[j]? = some e := ⟨_, List.getElem?_eq_getElem (by have := HLN.out; omega)⟩
          have HOI := hide (HMI.out.ok.ok ei (List.mem_of_getElem? hei))
          have HOJ := hide (HMI.out.ok.ok ej (List.mem_of_getElem? hej))
          unfold pairM at HRW
          rw [atM_get hei, atM_get hej] at HRW
          obtain ⟨ai, hai⟩ : ∃ s, A i = s := ⟨_, rfl⟩
          obtain ⟨aj, haj⟩ : ∃ s, A j = s := ⟨_, rfl⟩
          have HAI := hide (HOA.out i hin)
          have HAJ := hide (HOA.out j hjn)
          rw [hai] at HAI HRW
          rw [haj] at HAJ HRW
          have HAIE := hide hai
          have HAJE := hide haj
          obtain ⟨ge, ea, -⟩ := HV.out.row.get HLN.out hei
          have zz := fun wx (h : AA wx ga n A) (hb : Below w.heap.size w wx) => z16 (HV.out.below hb) ea hei hej h hin hjn HAIE.out HAJE.out
          have HEA := hide ea
          clear hei hej hai haj HOA HPR ea
          go_upto_region 16 with fail
          have zS := zz _ HA.out.dr HB.out.drew
          by_cases hkk : keyP ei = keyP ej
          · have hkb : decide (keyP ei = keyP ej) = true := by simpa using hkk
            by_cases hkl : keyP aj < keyP ai
            · have hlb : decide (keyP aj < keyP ai) = true := by simpa using hkl
              rw [if_pos ⟨hkk, hkl⟩] at HRW
              clear hkk hkl
              refine wp_region_held_drew (S := fun w' => w'.cell? ⟨mb, o, none⟩ = some (.slice (some ⟨ge, 0, none⟩) n c) ∧ RA w' ge (i * 9) (Ev ei) ∧ RA w' ge (j * 9) (Ev ej) ∧ RA w' ga (i * 9) (Ev ai) ∧ RA w' ga (j * 9) (Ev aj)) (by kernel_rfl) zS (fun hHeld => ?_)
              refine wpAnyH_take (i := 0) (v := ?_) rfl (by kernel_rfl) (by kernel_rfl) (by kernel_rfl) (fun _ _ _ h => h) (Or.inl ⟨by rfl, ?_⟩) (by assumption) ?_
              rotate_left
              · (intro w hSw; (try dsimp only at hSw); go_simp; try (with_reducible rfl))
              try simp only [Act.put, List.getElem_toArray, List.getElem_cons_zero, List.getElem_cons_succ, List.setIfInBounds_toArray, List.set_cons_zero, List.set_cons_succ]
              refine wpAnyH_take (i := 1) (v := ?_) rfl (by kernel_rfl) (by kernel_rfl) (by kernel_rfl) (fun _ _ _ h => h) (Or.inl ⟨by rfl, ?_⟩) (by assumption) ?_
              rotate_left
              · (intro w hSw; (try dsimp only at hSw); go_simp; try (with_reducible rfl))
              try simp only [Act.put, List.getElem_toArray, List.getElem_cons_zero, List.getElem_cons_succ, List.setIfInBounds_toArray, List.set_cons_zero, List.set_cons_succ]
              refine wpAnyH_take (i := 2) (v := ?_) rfl (by kernel_rfl) (by kernel_rfl) (by kernel_rfl) (fun _ _ _ h => h) (Or.inl ⟨by rfl, ?_⟩) (by assumption) ?_
              rotate_left
              · (intro w hSw; (try dsimp only at hSw); go_simp; try (with_reducible rfl))
              try simp only [Act.put, List.getElem_toArray, List.getElem_cons_zero, List.getElem_cons_succ, List.setIfInBounds_toArray, List.set_cons_zero, List.set_cons_succ]
              refine wpAnyH_take (i := 3) (v := ?_) rfl (by kernel_rfl) (by kernel_rfl) (by kernel_rfl) (fun _ _ _ h => h) (Or.inl ⟨by rfl, ?_⟩) (by assumption) ?_
              rotate_left
              · (intro w hSw; (try dsimp only at hSw); ((have z := hSw.1)); go_simp; try (with_reducible rfl))
              try simp only [Act.put, List.getElem_toArray, List.getElem_cons_zero, List.getElem_cons_succ, List.setIfInBounds_toArray, List.set_cons_zero, List.set_cons_succ]
              refine wpAnyH_take (i := 4) (v := ?_) rfl (by kernel_rfl) (by kernel_rfl) (by kernel_rfl) (fun _ _ _ h => h) (Or.inl ⟨by rfl, ?_⟩) (by assumption) ?_
              rotate_left
              · (intro w hSw; (try dsimp only at hSw); go_simp; try (with_reducible rfl))
              try simp only [Act.put, List.getElem_toArray, List.getElem_cons_zero, List.getElem_cons_succ, List.setIfInBounds_toArray, List.set_cons_zero, List.set_cons_succ]
              refine wpAnyH_take (i := 5) (v := ?_) rfl (by kernel_rfl) (by kernel_rfl) (by kernel_rfl) (fun _ _ _ h => h) (Or.inl ⟨by rfl, ?_⟩) (by assumption) ?_
              rotate_left
              · (intro w hSw; (try dsimp only at hSw); go_simp; try (with_reducible rfl))
              try simp only [Act.put, List.getElem_toArray, List.getElem_cons_zero, List.getElem_cons_succ, List.setIfInBounds_toArray, List.set_cons_zero, List.set_cons_succ]
              refine wpAnyH_take (i := 6) (v := ?_) rfl (by kernel_rfl) (by kernel_rfl) (by kernel_rfl) (fun _ _ _ h => h) (Or.inl ⟨by rfl, ?_⟩) (by assumption) ?_
              rotate_left
              · (intro w hSw; (try dsimp only at hSw); ((obtain ⟨z0, z1, z2, z3, z4, z5, z6, z7, z8⟩ := hSw.2.1.ee)); go_simp; try (with_reducible rfl))
              try simp only [Act.put, List.getElem_toArray, List.getElem_cons_zero, List.getElem_cons_succ, List.setIfInBounds_toArray, List.set_cons_zero, List.set_cons_succ]
              refine wpAnyH_take (i := 8) (v := ?_) rfl (by kernel_rfl) (by kernel_rfl) (by kernel_rfl) (fun _ _ _ h => h) (Or.inl ⟨by rfl, ?_⟩) (by assumption) ?_
              rotate_left
              · (intro w hSw; (try dsimp only at hSw); go_simp; try (with_reducible rfl))
              try simp only [Act.put, List.getElem_toArray, List.getElem_cons_zero, List.getElem_cons_succ, List.setIfInBounds_toArray, List.set_cons_zero, List.set_cons_succ]
              refine wpAnyH_take (i := 9) (v := ?_) rfl (by kernel_rfl) (by kernel_rfl) (by kernel_rfl) (fun _ _ _ h => h) (Or.inl ⟨by rfl, ?_⟩) (by assumption) ?_
              rotate_left
              · (intro w hSw; (try dsimp only at hSw); go_simp; try (with_reducible rfl))
              try simp only [Act.put, List.getElem_toArray, List.getElem_cons_zero, List.getElem_cons_succ, List.setIfInBounds_toArray, List.set_cons_zero, List.set_cons_succ]
              refine wpAnyH_take (i := 10) (v := ?_) rfl (by kernel_rfl) (by kernel_rfl) (by kernel_rfl) (fun _ _ _ h => h) (Or.inl ⟨by rfl, ?_⟩) (by assumption) ?_
              rotate_left
              · (intro w hSw; (try dsimp only at hSw); go_simp; try (with_reducible rfl))
              try simp only [Act.put, List.getElem_toArray, List.getElem_cons_zero, List.getElem_cons_succ, List.setIfInBounds_toArray, List.set_cons_zero, List.set_cons_succ]
              refine wpAnyH_take (i := 11) (v := ?_) rfl (by kernel_rfl) (by kernel_rfl) (by kernel_rfl) (fun _ _ _ h => h) (Or.inl ⟨by rfl, ?_⟩) (by assumption) ?_
              rotate_left
              · (intro w hSw; (try dsimp only at hSw); ((have z := hSw.1)); go_simp; try (with_reducible rfl))
              try simp only [Act.put, List.getElem_toArray, List.getElem_cons_zero, List.getElem_cons_succ, List.setIfInBounds_toArray, List.set_cons_zero, List.set_cons_succ]
              refine wpAnyH_take (i := 12) (v := ?_) rfl (by kernel_rfl) (by kernel_rfl) (by kernel_rfl) (fun _ _ _ h => h) (Or.inl ⟨by rfl, ?_⟩) (by assumption) ?_
              rotate_left
              · (intro w hSw; (try dsimp only at hSw); go_simp; try (with_reducible rfl))
              try simp only [Act.put, List.getElem_toArray, List.getElem_cons_zero, List.getElem_cons_succ, List.setIfInBounds_toArray, List.set_cons_zero, List.set_cons_succ]
              refine wpAnyH_take (i := 13) (v := ?_) rfl (by kernel_rfl) (by kernel_rfl) (by kernel_rfl) (fun _ _ _ h => h) (Or.inl ⟨by rfl, ?_⟩) (by assumption) ?_
              rotate_left
              · (intro w hSw; (try dsimp only at hSw); go_simp; try (with_reducible rfl))
              try simp only [Act.put, List.getElem_toArray, List.getElem_cons_zero, List.getElem_cons_succ, List.setIfInBounds_toArray, List.set_cons_zero, List.set_cons_succ]
              refine wpAnyH_take (i := 14) (v := ?_) rfl (by kernel_rfl) (by kernel_rfl) (by kernel_rfl) (fun _ _ _ h => h) (Or.inl ⟨by rfl, ?_⟩) (by assumption) ?_
              rotate_left
              · (intro w hSw; (try dsimp only at hSw); ((obtain ⟨z0, z1, z2, z3, z4, z5, z6, z7, z8⟩ := hSw.2.2.1.ee)); go_simp; try (with_reducible rfl))
              try simp only [Act.put, List.getElem_toArray, List.getElem_cons_zero, List.getElem_cons_succ, List.setIfInBounds_toArray, List.set_cons_zero, List.set_cons_succ]
              refine wpAnyH_ready (rs := [7]) (by kernel_rfl) (by simp) ?_
              refine (AllReadyH.cons rfl (fun K hK => ?_) AllReadyH.nil)
              · refine step_call rfl 66 #[.agg #[.int .i64 ei.tg, .int .i64 ei.sk, .int .i64 ei.tr.num, .int .i64 ei.tr.x, .int .i64 ei.tr.y, .int .i64 ei.tr.co, .int .i64 ei.tr.sp, .int .i64 ei.tr.st, .int .i64 ei.tr.ag]] (by simp [go_sem]) (key_any _ ei) ?_
                rintro e' w3 ⟨rfl, b3⟩
                replace b3 := of_drew b3
                have HA3 := hide (HA.out.below HG.out b3)
                have HG3 := hide (Nat.lt_of_lt_of_le HG.out b3.size)
                have HB3 := hide (lec HB.out b3)
                have zS3 := zz _ HA3.out HB3.out
                clear b3
                refine ⟨_, rfl, ?_⟩
                refine hK.out _ _ ?_ (fun hHeld => ?_)
                · (first | with_reducible exact zS | with_reducible exact zS3 | with_reducible exact zS4 | with_reducible exact zS5 | with_reducible exact zS6 | with_reducible exact zS7 | exact zS)
                clear hK K
                try simp only [Act.put, List.getElem_toArray, List.getElem_cons_zero, List.getElem_cons_succ, List.setIfInBounds_toArray, List.set_cons_zero, List.set_cons_succ]
                refine wpAnyH_ready (rs := [15]) (by kernel_rfl) (by simp) ?_
                refine (AllReadyH.cons rfl (fun K hK => ?_) AllReadyH.nil)
                · refine step_call rfl 66 #[.agg #[.int .i64 ej.tg, .int .i64 ej.sk, .int .i64 ej.tr.num, .int .i64 ej.tr.x, .int .i64 ej.tr.y, .int .i64 ej.tr.co, .int .i64 ej.tr.sp, .int .i64 ej.tr.st, .int .i64 ej.tr.ag]] (by simp [go_sem]) (key_any _ ej) ?_
                  rintro e' w4 ⟨rfl, b4⟩
                  have HA4 := hide (HA3.out.below HG3.out b4)
                  have HG4 := hide (Nat.lt_of_lt_of_le HG3.out b4.size)
                  have HB4 := hide (lec HB3.out b4)
                  have zS4 := zz _ HA4.out HB4.out
                  clear b4
                  refine ⟨_, rfl, ?_⟩
                  refine hK.out _ _ ?_ (fun hHeld => ?_)
                  · (first | with_reducible exact zS | with_reducible exact zS3 | with_reducible exact zS4 | with_reducible exact zS5 | with_reducible exact zS6 | with_reducible exact zS7 | exact zS)
                  clear hK K
                  try simp only [Act.put, List.getElem_toArray, List.getElem_cons_zero, List.getElem_cons_succ, List.setIfInBounds_toArray, List.set_cons_zero, List.set_cons_succ]
                  refine wpAnyH_take (i := 16) (v := ?_) rfl (by kernel_rfl) (by kernel_rfl) (by kernel_rfl) (fun _ _ _ h => h) (Or.inl ⟨by rfl, ?_⟩) (by assumption) ?_
                  rotate_left
                  · (intro w hSw; (try dsimp only at hSw); ((have zq := eq135 w ei ej HOI.out HOJ.out)); go_simp; try (with_reducible rfl))
                  try simp only [Act.put, List.getElem_toArray, List.getElem_cons_zero, List.getElem_cons_succ, List.setIfInBounds_toArray, List.set_cons_zero, List.set_cons_succ]
                  refine wpAnyH_take (i := 17) (v := ?_) rfl (by kernel_rfl) (by kernel_rfl) (by kernel_rfl) (fun _ _ _ h => h) (Or.inl ⟨by rfl, ?_⟩) (by assumption) ?_
                  rotate_left
                  · (intro w hSw; (try dsimp only at hSw); go_simp; try (with_reducible rfl))
                  try simp only [Act.put, List.getElem_toArray, List.getElem_cons_zero, List.getElem_cons_succ, List.setIfInBounds_toArray, List.set_cons_zero, List.set_cons_succ]
                  refine wpAnyH_take (i := 18) (v := ?_) rfl (by kernel_rfl) (by kernel_rfl) (by kernel_rfl) (fun _ _ _ h => h) (Or.inl ⟨by rfl, ?_⟩) (by assumption) ?_
                  rotate_left
                  · (intro w hSw; (try dsimp only at hSw); go_simp; try (with_reducible rfl))
                  try simp only [Act.put, List.getElem_toArray, List.getElem_cons_zero, List.getElem_cons_succ, List.setIfInBounds_toArray, List.set_cons_zero, List.set_cons_succ]
                  refine wpAnyH_take (i := 19) (v := ?_) rfl (by kernel_rfl) (by kernel_rfl) (by kernel_rfl) (fun _ _ _ h => h) (Or.inl ⟨by rfl, ?_⟩) (by assumption) ?_
                  rotate_left
                  · (intro w hSw; (try dsimp only at hSw); go_simp; try (with_reducible rfl))
                  try simp only [Act.put, List.getElem_toArray, List.getElem_cons_zero, List.getElem_cons_succ, List.setIfInBounds_toArray, List.set_cons_zero, List.set_cons_succ]
                  refine wpAnyH_take (i := 20) (v := ?_) rfl (by kernel_rfl) (by kernel_rfl) (by kernel_rfl) (fun _ _ _ h => h) (Or.inl ⟨by rfl, ?_⟩) (by assumption) ?_
                  rotate_left
                  · (intro w hSw; (try dsimp only at hSw); go_simp; try (with_reducible rfl))
                  try simp only [Act.put, List.getElem_toArray, List.getElem_cons_zero, List.getElem_cons_succ, List.setIfInBounds_toArray, List.set_cons_zero, List.set_cons_succ]
                  refine wpAnyH_take (i := 21) (v := ?_) rfl (by kernel_rfl) (by kernel_rfl) (by kernel_rfl) (fun _ _ _ h => h) (Or.inl ⟨by rfl, ?_⟩) (by assumption) ?_
                  rotate_left
                  · (intro w hSw; (try dsimp only at hSw); ((obtain ⟨z0, z1, z2, z3, z4, z5, z6, z7, z8⟩ := hSw.2.2.2.2.ee)); go_simp; try (with_reducible rfl))
                  try simp only [Act.put, List.getElem_toArray, List.getElem_cons_zero, List.getElem_cons_succ, List.setIfInBounds_toArray, List.set_cons_zero, List.set_cons_succ]
                  refine wpAnyH_take (i := 23) (v := ?_) rfl (by kernel_rfl) (by kernel_rfl) (by kernel_rfl) (fun _ _ _ h => h) (Or.inl ⟨by rfl, ?_⟩) (by assumption) ?_
                  rotate_left
                  · (intro w hSw; (try dsimp only at hSw); go_simp; try (with_reducible rfl))
                  try simp only [Act.put, List.getElem_toArray, List.getElem_cons_zero, List.getElem_cons_succ, List.setIfInBounds_toArray, List.set_cons_zero, List.set_cons_succ]
                  refine wpAnyH_take (i := 24) (v := ?_) rfl (by kernel_rfl) (by kernel_rfl) (by kernel_rfl) (fun _ _ _ h => h) (Or.inl ⟨by rfl, ?_⟩) (by assumption) ?_
                  rotate_left
                  · (intro w hSw; (try dsimp only at hSw); go_simp; try (with_reducible rfl))
                  try simp only [Act.put, List.getElem_toArray, List.getElem_cons_zero, List.getElem_cons_succ, List.setIfInBounds_toArray, List.set_cons_zero, List.set_cons_succ]
                  refine wpAnyH_take (i := 25) (v := ?_) rfl (by kernel_rfl) (by kernel_rfl) (by kernel_rfl) (fun _ _ _ h => h) (Or.inl ⟨by rfl, ?_⟩) (by assumption) ?_
                  rotate_left
                  · (intro w hSw; (try dsimp only at hSw); go_simp; try (with_reducible rfl))
                  try simp only [Act.put, List.getElem_toArray, List.getElem_cons_zero, List.getElem_cons_succ, List.setIfInBounds_toArray, List.set_cons_zero, List.set_cons_succ]
                  refine wpAnyH_take (i := 26) (v := ?_) rfl (by kernel_rfl) (by kernel_rfl) (by kernel_rfl) (fun _ _ _ h => h) (Or.inl ⟨by rfl, ?_⟩) (by assumption) ?_
                  rotate_left
                  · (intro w hSw; (try dsimp only at hSw); ((obtain ⟨z0, z1, z2, z3, z4, z5, z6, z7, z8⟩ := hSw.2.2.2.1.ee)); go_simp; try (with_reducible rfl))
                  try simp only [Act.put, List.getElem_toArray, List.getElem_cons_zero, List.getElem_cons_succ, List.setIfInBounds_toArray, List.set_cons_zero, List.set_cons_succ]
                  refine wpAnyH_ready (rs := [22]) (by kernel_rfl) (by simp) ?_
                  refine (AllReadyH.cons rfl (fun K hK => ?_) AllReadyH.nil)
                  · refine step_call_g (by rfl) 66 #[.agg #[.int .i64 aj.tg, .int .i64 aj.sk, .int .i64 aj.tr.num, .int .i64 aj.tr.x, .int .i64 aj.tr.y, .int .i64 aj.tr.co, .int .i64 aj.tr.sp, .int .i64 aj.tr.st, .int .i64 aj.tr.ag]] (by simp [go_sem]) (key_any _ aj) ?_
                    rintro e' w5 ⟨rfl, b5⟩
                    have HA5 := hide (HA4.out.below HG4.out b5)
                    have HG5 := hide (Nat.lt_of_lt_of_le HG4.out b5.size)
                    have HB5 := hide (lec HB4.out b5)
                    have zS5 := zz _ HA5.out HB5.out
                    clear b5
                    refine ⟨_, rfl, ?_⟩
                    refine hK.out _ _ ?_ (fun hHeld => ?_)
                    · (first | with_reducible exact zS | with_reducible exact zS3 | with_reducible exact zS4 | with_reducible exact zS5 | with_reducible exact zS6 | with_reducible exact zS7 | exact zS)
                    clear hK K
                    try simp only [Act.put, List.getElem_toArray, List.getElem_cons_zero, List.getElem_cons_succ, List.setIfInBounds_toArray, List.set_cons_zero, List.set_cons_succ]
                    refine wpAnyH_ready (rs := [27]) (by kernel_rfl) (by simp) ?_
                    refine (AllReadyH.cons rfl (fun K hK => ?_) AllReadyH.nil)
                    · refine step_call_g (by rfl) 66 #[.agg #[.int .i64 ai.tg, .int .i64 ai.sk, .int .i64 ai.tr.num, .int .i64 ai.tr.x, .int .i64 ai.tr.y, .int .i64 ai.tr.co, .int .i64 ai.tr.sp, .int .i64 ai.tr.st, .int .i64 ai.tr.ag]] (by simp [go_sem]) (key_any _ ai) ?_
                      rintro e' w6 ⟨rfl, b6⟩
                      have HA6 := hide (HA5.out.below HG5.out b6)
                      have HG6 := hide (Nat.lt_of_lt_of_le HG5.out b6.size)
                      have HB6 := hide (lec HB5.out b6)
                      have zS6 := zz _ HA6.out HB6.out
                      clear b6
                      refine ⟨_, rfl, ?_⟩
                      refine hK.out _ _ ?_ (fun hHeld => ?_)
                      · (first | with_reducible exact zS | with_reducible exact zS3 | with_reducible exact zS4 | with_reducible exact zS5 | with_reducible exact zS6 | with_reducible exact zS7 | exact zS)
                      clear hK K
                      try simp only [Act.put, List.getElem_toArray, List.getElem_cons_zero, List.getElem_cons_succ, List.setIfInBounds_toArray, List.set_cons_zero, List.set_cons_succ]
                      refine wpAnyH_ready (rs := [28]) (by kernel_rfl) (by simp) ?_
                      refine (AllReadyH.cons rfl (fun K hK => ?_) AllReadyH.nil)
                      · refine step_call_g (by rfl) 67 #[.agg #[.int .i64 aj.tr.ag, .int .i64 aj.tr.x, .int .i64 aj.tr.y, .int .i64 aj.tr.co, .int .i64 aj.tr.sp, .int .i64 aj.tr.st, .int .i64 aj.sk], .agg #[.int .i64 ai.tr.ag, .int .i64 ai.tr.x, .int .i64 ai.tr.y, .int .i64 ai.tr.co, .int .i64 ai.tr.sp, .int .i64 ai.tr.st, .int .i64 ai.sk]] (by simp [go_sem]) (less_any _ aj ai HAJ.out HAI.out) ?_
                        rintro e' w7 ⟨rfl, b7⟩
                        have HA7 := hide (HA6.out.below HG6.out b7)
                        have HG7 := hide (Nat.lt_of_lt_of_le HG6.out b7.size)
                        have HB7 := hide (lec HB6.out b7)
                        have zS7 := zz _ HA7.out HB7.out
                        clear b7
                        refine ⟨_, rfl, ?_⟩
                        refine hK.out _ _ ?_ (fun hHeld => ?_)
                        · (first | with_reducible exact zS | with_reducible exact zS3 | with_reducible exact zS4 | with_reducible exact zS5 | with_reducible exact zS6 | with_reducible exact zS7 | exact zS)
                        clear hK K
                        try simp only [Act.put, List.getElem_toArray, List.getElem_cons_zero, List.getElem_cons_succ, List.setIfInBounds_toArray, List.set_cons_zero, List.set_cons_succ]
                        refine wpAnyH_take (i := 29) (v := ?_) rfl (by kernel_rfl) (by kernel_rfl) (by kernel_rfl) (fun _ _ _ h => h) (Or.inl ⟨by rfl, ?_⟩) (by assumption) ?_
                        rotate_left
                        · (intro w hSw; (try dsimp only at hSw); go_simp; try (with_reducible rfl))
                        try simp only [Act.put, List.getElem_toArray, List.getElem_cons_zero, List.getElem_cons_succ, List.setIfInBounds_toArray, List.set_cons_zero, List.set_cons_succ]
                        refine wpAnyH_done (by kernel_rfl) ?_ _
                        clear zS zS3 zS4 zS5 zS6 zS7 zz
                        obtain ⟨y0, y1, y2, y3, y4, y5, y6, y7, y8⟩ := (HA7.out.c i hin).ee
                        rw [HAIE.out] at y0 y1 y2 y3 y4 y5 y6 y7 y8
                        obtain ⟨u0', u1', u2', u3', u4', u5', u6', u7', u8'⟩ := (HA7.out.c j hjn).ee
                        rw [HAJE.out] at u0' u1' u2' u3' u4' u5' u6' u7' u8'
                        have fa := HA7.out.f
                        clear HA HA3 HA4 HA5 HA6 HG HG3 HG4 HG5 HG6 HB HB3 HB4 HB5 HB6
                        go_upto_region 17 with fail
                        refine wp_region_held_drew (S := fun w' => True) (by kernel_rfl) trivial (fun hHeld => ?_)
                        refine wpAnyH_take (i := 0) (v := ?_) rfl (by kernel_rfl) (by kernel_rfl) (by kernel_rfl) (fun _ _ _ h => h) (Or.inl ⟨by rfl, ?_⟩) (by assumption) ?_
                        rotate_left
                        · (intro w hSw; (try dsimp only at hSw); go_simp; try (with_reducible rfl))
                        try simp only [Act.put, List.getElem_toArray, List.getElem_cons_zero, List.getElem_cons_succ, List.setIfInBounds_toArray, List.set_cons_zero, List.set_cons_succ]
                        refine wpAnyH_take (i := 1) (v := ?_) rfl (by kernel_rfl) (by kernel_rfl) (by kernel_rfl) (fun _ _ _ h => h) (Or.inl ⟨by rfl, ?_⟩) (by assumption) ?_
                        rotate_left
                        · (intro w hSw; (try dsimp only at hSw); go_simp; try (with_reducible rfl))
                        try simp only [Act.put, List.getElem_toArray, List.getElem_cons_zero, List.getElem_cons_succ, List.setIfInBounds_toArray, List.set_cons_zero, List.set_cons_succ]
                        refine wpAnyH_take (i := 2) (v := ?_) rfl (by kernel_rfl) (by kernel_rfl) (by kernel_rfl) (fun _ _ _ h => h) (Or.inl ⟨by rfl, ?_⟩) (by assumption) ?_
                        rotate_left
                        · (intro w hSw; (try dsimp only at hSw); go_simp; try (with_reducible rfl))
                        try simp only [Act.put, List.getElem_toArray, List.getElem_cons_zero, List.getElem_cons_succ, List.setIfInBounds_toArray, List.set_cons_zero, List.set_cons_succ]
                        refine wpAnyH_take (i := 3) (v := ?_) rfl (by kernel_rfl) (by kernel_rfl) (by kernel_rfl) (fun _ _ _ h => h) (Or.inl ⟨by rfl, ?_⟩) (by assumption) ?_
                        rotate_left
                        · (intro w hSw; (try dsimp only at hSw); go_simp; try (with_reducible rfl))
                        try simp only [Act.put, List.getElem_toArray, List.getElem_cons_zero, List.getElem_cons_succ, List.setIfInBounds_toArray, List.set_cons_zero, List.set_cons_succ]
                        refine wpAnyH_take (i := 4) (v := ?_) rfl (by kernel_rfl) (by kernel_rfl) (by kernel_rfl) (fun _ _ _ h => h) (Or.inl ⟨by rfl, ?_⟩) (by assumption) ?_
                        rotate_left
                        · (intro w hSw; (try dsimp only at hSw); go_simp; try (with_reducible rfl))
                        try simp only [Act.put, List.getElem_toArray, List.getElem_cons_zero, List.getElem_cons_succ, List.setIfInBounds_toArray, List.set_cons_zero, List.set_cons_succ]
                        refine wpAnyH_take (i := 5) (v := ?_) rfl (by kernel_rfl) (by kernel_rfl) (by kernel_rfl) (fun _ _ _ h => h) (Or.inl ⟨by rfl, ?_⟩) (by assumption) ?_
                        rotate_left
                        · (intro w hSw; (try dsimp only at hSw); go_simp; try (with_reducible rfl))
                        try simp only [Act.put, List.getElem_toArray, List.getElem_cons_zero, List.getElem_cons_succ, List.setIfInBounds_toArray, List.set_cons_zero, List.set_cons_succ]
                        refine wpAnyH_take (i := 6) (v := ?_) rfl (by kernel_rfl) (by kernel_rfl) (by kernel_rfl) (fun _ _ _ h => h) (Or.inl ⟨by rfl, ?_⟩) (by assumption) ?_
                        rotate_left
                        · (intro w hSw; (try dsimp only at hSw); go_simp; try (with_reducible rfl))
                        try simp only [Act.put, List.getElem_toArray, List.getElem_cons_zero, List.getElem_cons_succ, List.setIfInBounds_toArray, List.set_cons_zero, List.set_cons_succ]
                        refine wpAnyH_take (i := 8) (v := ?_) rfl (by kernel_rfl) (by kernel_rfl) (by kernel_rfl) (fun _ _ _ h => h) (Or.inl ⟨by rfl, ?_⟩) (by assumption) ?_
                        rotate_left
                        · (intro w hSw; (try dsimp only at hSw); go_simp; try (with_reducible rfl))
                        try simp only [Act.put, List.getElem_toArray, List.getElem_cons_zero, List.getElem_cons_succ, List.setIfInBounds_toArray, List.set_cons_zero, List.set_cons_succ]
                        refine wpAnyH_take (i := 9) (v := ?_) rfl (by kernel_rfl) (by kernel_rfl) (by kernel_rfl) (fun _ _ _ h => h) (Or.inl ⟨by rfl, ?_⟩) (by assumption) ?_
                        rotate_left
                        · (intro w hSw; (try dsimp only at hSw); go_simp; try (with_reducible rfl))
                        try simp only [Act.put, List.getElem_toArray, List.getElem_cons_zero, List.getElem_cons_succ, List.setIfInBounds_toArray, List.set_cons_zero, List.set_cons_succ]
                        refine wpAnyH_take (i := 10) (v := ?_) rfl (by kernel_rfl) (by kernel_rfl) (by kernel_rfl) (fun _ _ _ h => h) (Or.inl ⟨by rfl, ?_⟩) (by assumption) ?_
                        rotate_left
                        · (intro w hSw; (try dsimp only at hSw); go_simp; try (with_reducible rfl))
                        try simp only [Act.put, List.getElem_toArray, List.getElem_cons_zero, List.getElem_cons_succ, List.setIfInBounds_toArray, List.set_cons_zero, List.set_cons_succ]
                        refine wpAnyH_ready (rs := [7, 11]) (by kernel_rfl) (by simp) ?_
                        refine (AllReadyH.cons rfl (fun K hK => ?_) (AllReadyH.cons rfl (fun K hK => ?_) AllReadyH.nil))
                        · go_simp
                          refine hK.out _ _ ?_ (fun hHeld => ?_)
                          · trivial
                          clear hK K
                          try simp only [Act.put, List.getElem_toArray, List.getElem_cons_zero, List.getElem_cons_succ, List.setIfInBounds_toArray, List.set_cons_zero, List.set_cons_succ]
                          refine wpAnyH_ready (rs := [11]) (by kernel_rfl) (by simp) ?_
                          refine (AllReadyH.cons rfl (fun K hK => ?_) AllReadyH.nil)
                          · go_simp
                            refine hK.out _ _ ?_ (fun hHeld => ?_)
                            · trivial
                            clear hK K
                            try simp only [Act.put, List.getElem_toArray, List.getElem_cons_zero, List.getElem_cons_succ, List.setIfInBounds_toArray, List.set_cons_zero, List.set_cons_succ]
                            refine wpAnyH_take (i := 12) (v := ?_) rfl (by kernel_rfl) (by kernel_rfl) (by kernel_rfl) (fun _ _ _ h => h) (Or.inl ⟨by rfl, ?_⟩) (by assumption) ?_
                            rotate_left
                            · (intro w hSw; (try dsimp only at hSw); go_simp; try (with_reducible rfl))
                            try simp only [Act.put, List.getElem_toArray, List.getElem_cons_zero, List.getElem_cons_succ, List.setIfInBounds_toArray, List.set_cons_zero, List.set_cons_succ]
                            refine wpAnyH_ready (rs := [13]) (by kernel_rfl) (by simp) ?_
                            refine (AllReadyH.cons rfl (fun K hK => ?_) AllReadyH.nil)
                            · go_simp
                              rw [show (((((((((w7.setCell ⟨ga, i * 9, none⟩ (.int .i64 aj.tg)).setCell ⟨ga, i * 9 + 1, none⟩ (.int .i64 aj.sk)).setCell ⟨ga, i * 9 + 2, none⟩ (.int .i64 aj.tr.num)).setCell ⟨ga, i * 9 + 3, none⟩ (.int .i64 aj.tr.x)).setCell ⟨ga, i * 9 + 4, none⟩ (.int .i64 aj.tr.y)).setCell ⟨ga, i * 9 + 5, none⟩ (.int .i64 aj.tr.co)).setCell ⟨ga, i * 9 + 6, none⟩ (.int .i64 aj.tr.sp)).setCell ⟨ga, i * 9 + 7, none⟩ (.int .i64 aj.tr.st)).setCell ⟨ga, i * 9 + 8, none⟩ (.int .i64 aj.tr.ag)) = w7.setCells ga (i * 9) (Ev aj) from rfl]
                              clear y0 y1 y2 y3 y4 y5 y6 y7 y8 u0' u1' u2' u3' u4' u5' u6' u7' u8' fa
                              have HA8 := hide ((HA7.out.fill HG7.out hin aj).1.dr)
                              have HG8 := hide (dr_lt (Nat.lt_of_lt_of_le HG7.out (HA7.out.fill HG7.out hin aj).2.ex.size))
                              have HB8 := (bel_setsE (vs := Ev aj) (i * 9) HB7.out HGA.out).drew
                              generalize (w7.setCells ga (i * 9) (Ev aj)).drew = w8 at *
                              have q := HA8.out.c j hjn
                              obtain ⟨u0', u1', u2', u3', u4', u5', u6', u7', u8'⟩ := q.ee
                              have fa := HA8.out.f
                              clear q
                              refine hK.out _ _ ?_ (fun hHeld => ?_)
                              · trivial
                              clear hK K
                              try simp only [Act.put, List.getElem_toArray, List.getElem_cons_zero, List.getElem_cons_succ, List.setIfInBounds_toArray, List.set_cons_zero, List.set_cons_succ]
                              refine wpAnyH_take (i := 14) (v := ?_) rfl (by kernel_rfl) (by kernel_rfl) (by kernel_rfl) (fun _ _ _ h => h) (Or.inl ⟨by rfl, ?_⟩) (by assumption) ?_
                              rotate_left
                              · (intro w hSw; (try dsimp only at hSw); go_simp; try (with_reducible rfl))
                              try simp only [Act.put, List.getElem_toArray, List.getElem_cons_zero, List.getElem_cons_succ, List.setIfInBounds_toArray, List.set_cons_zero, List.set_cons_succ]
                              refine wpAnyH_ready (rs := [15]) (by kernel_rfl) (by simp) ?_
                              refine (AllReadyH.cons rfl (fun K hK => ?_) AllReadyH.nil)
                              · go_simp
                                rw [show (((((((((w8.setCell ⟨ga, j * 9, none⟩ (.int .i64 ai.tg)).setCell ⟨ga, j * 9 + 1, none⟩ (.int .i64 ai.sk)).setCell ⟨ga, j * 9 + 2, none⟩ (.int .i64 ai.tr.num)).setCell ⟨ga, j * 9 + 3, none⟩ (.int .i64 ai.tr.x)).setCell ⟨ga, j * 9 + 4, none⟩ (.int .i64 ai.tr.y)).setCell ⟨ga, j * 9 + 5, none⟩ (.int .i64 ai.tr.co)).setCell ⟨ga, j * 9 + 6, none⟩ (.int .i64 ai.tr.sp)).setCell ⟨ga, j * 9 + 7, none⟩ (.int .i64 ai.tr.st)).setCell ⟨ga, j * 9 + 8, none⟩ (.int .i64 ai.tr.ag)) = w8.setCells ga (j * 9) (Ev ai) from rfl]
                                clear u0' u1' u2' u3' u4' u5' u6' u7' u8' fa
                                have HA9 := hide ((HA8.out.fill HG8.out hjn ai).1)
                                have HG9 := hide (Nat.lt_of_lt_of_le HG8.out (HA8.out.fill HG8.out hjn ai).2.ex.size)
                                have HB9 := hide (bel_setsE (vs := Ev ai) (j * 9) HB8 HGA.out)
                                generalize w8.setCells ga (j * 9) (Ev ai) = w9 at *
                                clear HA8 HG8 HB8
                                refine hK.out _ _ ?_ (fun hHeld => ?_)
                                · trivial
                                clear hK K
                                try simp only [Act.put, List.getElem_toArray, List.getElem_cons_zero, List.getElem_cons_succ, List.setIfInBounds_toArray, List.set_cons_zero, List.set_cons_succ]
                                refine wpAnyH_done (by kernel_rfl) ?_ _
                                have n1 : w9.cell? ⟨ga, j * 9 + 2, none⟩ = some (.int .i64 ai.tr.num) := by have := (HA9.out.c j hjn).c 2 _ rfl; rw [upd_same] at this; exact this
                                have n2 : w9.cell? ⟨ga, i * 9 + 2, none⟩ = some (.int .i64 aj.tr.num) := by have := (HA9.out.c i hin).c 2 _ rfl; rw [upd_ne _ _ HIJ.out, upd_same] at this; exact this
                                have fa := HA9.out.f
                                go_upto_region 18 with fail
                                refine wp_region_held_drew (S := fun w' => True) (by kernel_rfl) trivial (fun hHeld => ?_)
                                refine wpAnyH_take (i := 0) (v := ?_) rfl (by kernel_rfl) (by kernel_rfl) (by kernel_rfl) (fun _ _ _ h => h) (Or.inl ⟨by rfl, ?_⟩) (by assumption) ?_
                                rotate_left
                                · (intro w hSw; (try dsimp only at hSw); go_simp; try (with_reducible rfl))
                                try simp only [Act.put, List.getElem_toArray, List.getElem_cons_zero, List.getElem_cons_succ, List.setIfInBounds_toArray, List.set_cons_zero, List.set_cons_succ]
                                refine wpAnyH_take (i := 1) (v := ?_) rfl (by kernel_rfl) (by kernel_rfl) (by kernel_rfl) (fun _ _ _ h => h) (Or.inl ⟨by rfl, ?_⟩) (by assumption) ?_
                                rotate_left
                                · (intro w hSw; (try dsimp only at hSw); go_simp; try (with_reducible rfl))
                                try simp only [Act.put, List.getElem_toArray, List.getElem_cons_zero, List.getElem_cons_succ, List.setIfInBounds_toArray, List.set_cons_zero, List.set_cons_succ]
                                refine wpAnyH_take (i := 2) (v := ?_) rfl (by kernel_rfl) (by kernel_rfl) (by kernel_rfl) (fun _ _ _ h => h) (Or.inl ⟨by rfl, ?_⟩) (by assumption) ?_
                                rotate_left
                                · (intro w hSw; (try dsimp only at hSw); go_simp; try (with_reducible rfl))
                                try simp only [Act.put, List.getElem_toArray, List.getElem_cons_zero, List.getElem_cons_succ, List.setIfInBounds_toArray, List.set_cons_zero, List.set_cons_succ]
                                refine wpAnyH_take (i := 3) (v := ?_) rfl (by kernel_rfl) (by kernel_rfl) (by kernel_rfl) (fun _ _ _ h => h) (Or.inl ⟨by rfl, ?_⟩) (by assumption) ?_
                                rotate_left
                                · (intro w hSw; (try dsimp only at hSw); go_simp; try (with_reducible rfl))
                                try simp only [Act.put, List.getElem_toArray, List.getElem_cons_zero, List.getElem_cons_succ, List.setIfInBounds_toArray, List.set_cons_zero, List.set_cons_succ]
                                refine wpAnyH_take (i := 4) (v := ?_) rfl (by kernel_rfl) (by kernel_rfl) (by kernel_rfl) (fun _ _ _ h => h) (Or.inl ⟨by rfl, ?_⟩) (by assumption) ?_
                                rotate_left
                                · (intro w hSw; (try dsimp only at hSw); go_simp; try (with_reducible rfl))
                                try simp only [Act.put, List.getElem_toArray, List.getElem_cons_zero, List.getElem_cons_succ, List.setIfInBounds_toArray, List.set_cons_zero, List.set_cons_succ]
                                refine wpAnyH_take (i := 5) (v := ?_) rfl (by kernel_rfl) (by kernel_rfl) (by kernel_rfl) (fun _ _ _ h => h) (Or.inl ⟨by rfl, ?_⟩) (by assumption) ?_
                                rotate_left
                                · (intro w hSw; (try dsimp only at hSw); go_simp; try (with_reducible rfl))
                                try simp only [Act.put, List.getElem_toArray, List.getElem_cons_zero, List.getElem_cons_succ, List.setIfInBounds_toArray, List.set_cons_zero, List.set_cons_succ]
                                refine wpAnyH_take (i := 6) (v := ?_) rfl (by kernel_rfl) (by kernel_rfl) (by kernel_rfl) (fun _ _ _ h => h) (Or.inl ⟨by rfl, ?_⟩) (by assumption) ?_
                                rotate_left
                                · (intro w hSw; (try dsimp only at hSw); go_simp; try (with_reducible rfl))
                                try simp only [Act.put, List.getElem_toArray, List.getElem_cons_zero, List.getElem_cons_succ, List.setIfInBounds_toArray, List.set_cons_zero, List.set_cons_succ]
                                refine wpAnyH_take (i := 7) (v := ?_) rfl (by kernel_rfl) (by kernel_rfl) (by kernel_rfl) (fun _ _ _ h => h) (Or.inl ⟨by rfl, ?_⟩) (by assumption) ?_
                                rotate_left
                                · (intro w hSw; (try dsimp only at hSw); go_simp; try (with_reducible rfl))
                                try simp only [Act.put, List.getElem_toArray, List.getElem_cons_zero, List.getElem_cons_succ, List.setIfInBounds_toArray, List.set_cons_zero, List.set_cons_succ]
                                refine wpAnyH_take (i := 8) (v := ?_) rfl (by kernel_rfl) (by kernel_rfl) (by kernel_rfl) (fun _ _ _ h => h) (Or.inl ⟨by rfl, ?_⟩) (by assumption) ?_
                                rotate_left
                                · (intro w hSw; (try dsimp only at hSw); go_simp; try (with_reducible rfl))
                                try simp only [Act.put, List.getElem_toArray, List.getElem_cons_zero, List.getElem_cons_succ, List.setIfInBounds_toArray, List.set_cons_zero, List.set_cons_succ]
                                refine wpAnyH_take (i := 10) (v := ?_) rfl (by kernel_rfl) (by kernel_rfl) (by kernel_rfl) (fun _ _ _ h => h) (Or.inl ⟨by rfl, ?_⟩) (by assumption) ?_
                                rotate_left
                                · (intro w hSw; (try dsimp only at hSw); go_simp; try (with_reducible rfl))
                                try simp only [Act.put, List.getElem_toArray, List.getElem_cons_zero, List.getElem_cons_succ, List.setIfInBounds_toArray, List.set_cons_zero, List.set_cons_succ]
                                refine wpAnyH_take (i := 11) (v := ?_) rfl (by kernel_rfl) (by kernel_rfl) (by kernel_rfl) (fun _ _ _ h => h) (Or.inl ⟨by rfl, ?_⟩) (by assumption) ?_
                                rotate_left
                                · (intro w hSw; (try dsimp only at hSw); go_simp; try (with_reducible rfl))
                                try simp only [Act.put, List.getElem_toArray, List.getElem_cons_zero, List.getElem_cons_succ, List.setIfInBounds_toArray, List.set_cons_zero, List.set_cons_succ]
                                refine wpAnyH_take (i := 12) (v := ?_) rfl (by kernel_rfl) (by kernel_rfl) (by kernel_rfl) (fun _ _ _ h => h) (Or.inl ⟨by rfl, ?_⟩) (by assumption) ?_
                                rotate_left
                                · (intro w hSw; (try dsimp only at hSw); go_simp; try (with_reducible rfl))
                                try simp only [Act.put, List.getElem_toArray, List.getElem_cons_zero, List.getElem_cons_succ, List.setIfInBounds_toArray, List.set_cons_zero, List.set_cons_succ]
                                refine wpAnyH_take (i := 13) (v := ?_) rfl (by kernel_rfl) (by kernel_rfl) (by kernel_rfl) (fun _ _ _ h => h) (Or.inl ⟨by rfl, ?_⟩) (by assumption) ?_
                                rotate_left
                                · (intro w hSw; (try dsimp only at hSw); go_simp; try (with_reducible rfl))
                                try simp only [Act.put, List.getElem_toArray, List.getElem_cons_zero, List.getElem_cons_succ, List.setIfInBounds_toArray, List.set_cons_zero, List.set_cons_succ]
                                refine wpAnyH_take (i := 14) (v := ?_) rfl (by kernel_rfl) (by kernel_rfl) (by kernel_rfl) (fun _ _ _ h => h) (Or.inl ⟨by rfl, ?_⟩) (by assumption) ?_
                                rotate_left
                                · (intro w hSw; (try dsimp only at hSw); go_simp; try (with_reducible rfl))
                                try simp only [Act.put, List.getElem_toArray, List.getElem_cons_zero, List.getElem_cons_succ, List.setIfInBounds_toArray, List.set_cons_zero, List.set_cons_succ]
                                refine wpAnyH_ready (rs := [9, 15]) (by kernel_rfl) (by simp) ?_
                                refine (AllReadyH.cons rfl (fun K hK => ?_) (AllReadyH.cons rfl (fun K hK => ?_) AllReadyH.nil))
                                · go_simp
                                  refine hK.out _ _ ?_ (fun hHeld => ?_)
                                  · trivial
                                  clear hK K
                                  try simp only [Act.put, List.getElem_toArray, List.getElem_cons_zero, List.getElem_cons_succ, List.setIfInBounds_toArray, List.set_cons_zero, List.set_cons_succ]
                                  refine wpAnyH_ready (rs := [15]) (by kernel_rfl) (by simp) ?_
                                  refine (AllReadyH.cons rfl (fun K hK => ?_) AllReadyH.nil)
                                  · go_simp
                                    refine hK.out _ _ ?_ (fun hHeld => ?_)
                                    · trivial
                                    clear hK K
                                    try simp only [Act.put, List.getElem_toArray, List.getElem_cons_zero, List.getElem_cons_succ, List.setIfInBounds_toArray, List.set_cons_zero, List.set_cons_succ]
                                    refine wpAnyH_take (i := 16) (v := ?_) rfl (by kernel_rfl) (by kernel_rfl) (by kernel_rfl) (fun _ _ _ h => h) (Or.inl ⟨by rfl, ?_⟩) (by assumption) ?_
                                    rotate_left
                                    · (intro w hSw; (try dsimp only at hSw); go_simp; try (with_reducible rfl))
                                    try simp only [Act.put, List.getElem_toArray, List.getElem_cons_zero, List.getElem_cons_succ, List.setIfInBounds_toArray, List.set_cons_zero, List.set_cons_succ]
                                    refine wpAnyH_take (i := 17) (v := ?_) rfl (by kernel_rfl) (by kernel_rfl) (by kernel_rfl) (fun _ _ _ h => h) (Or.inl ⟨by rfl, ?_⟩) (by assumption) ?_
                                    rotate_left
                                    · (intro w hSw; (try dsimp only at hSw); go_simp; try (with_reducible rfl))
                                    try simp only [Act.put, List.getElem_toArray, List.getElem_cons_zero, List.getElem_cons_succ, List.setIfInBounds_toArray, List.set_cons_zero, List.set_cons_succ]
                                    refine wpAnyH_take (i := 18) (v := ?_) rfl (by kernel_rfl) (by kernel_rfl) (by kernel_rfl) (fun _ _ _ h => h) (Or.inl ⟨by rfl, ?_⟩) (by assumption) ?_
                                    rotate_left
                                    · (intro w hSw; (try dsimp only at hSw); go_simp; try (with_reducible rfl))
                                    try simp only [Act.put, List.getElem_toArray, List.getElem_cons_zero, List.getElem_cons_succ, List.setIfInBounds_toArray, List.set_cons_zero, List.set_cons_succ]
                                    refine wpAnyH_ready (rs := [19]) (by kernel_rfl) (by simp) ?_
                                    refine (AllReadyH.cons rfl (fun K hK => ?_) AllReadyH.nil)
                                    · go_simp
                                      clear n1 n2 fa
                                      have HA10 := hide ((HA9.out.num HG9.out hin ai.tr.num).1.dr)
                                      have HG10 := hide (dr_lt (Nat.lt_of_lt_of_le HG9.out (HA9.out.num HG9.out hin ai.tr.num).2.ex.size))
                                      have HB10 := (HB9.out.setCell (p := ⟨ga, i * 9 + 2, none⟩) HGA.out (.int .i64 ai.tr.num)).drew
                                      generalize (w9.setCell ⟨ga, i * 9 + 2, none⟩ (.int .i64 ai.tr.num)).drew = w10 at *
                                      have n1 := (HA10.out.c j hjn).c 2 _ rfl
                                      have fa := HA10.out.f
                                      refine hK.out _ _ ?_ (fun hHeld => ?_)
                                      · trivial
                                      clear hK K
                                      try simp only [Act.put, List.getElem_toArray, List.getElem_cons_zero, List.getElem_cons_succ, List.setIfInBounds_toArray, List.set_cons_zero, List.set_cons_succ]
                                      refine wpAnyH_take (i := 20) (v := ?_) rfl (by kernel_rfl) (by kernel_rfl) (by kernel_rfl) (fun _ _ _ h => h) (Or.inl ⟨by rfl, ?_⟩) (by assumption) ?_
                                      rotate_left
                                      · (intro w hSw; (try dsimp only at hSw); go_simp; try (with_reducible rfl))
                                      try simp only [Act.put, List.getElem_toArray, List.getElem_cons_zero, List.getElem_cons_succ, List.setIfInBounds_toArray, List.set_cons_zero, List.set_cons_succ]
                                      refine wpAnyH_take (i := 21) (v := ?_) rfl (by kernel_rfl) (by kernel_rfl) (by kernel_rfl) (fun _ _ _ h => h) (Or.inl ⟨by rfl, ?_⟩) (by assumption) ?_
                                      rotate_left
                                      · (intro w hSw; (try dsimp only at hSw); go_simp; try (with_reducible rfl))
                                      try simp only [Act.put, List.getElem_toArray, List.getElem_cons_zero, List.getElem_cons_succ, List.setIfInBounds_toArray, List.set_cons_zero, List.set_cons_succ]
                                      refine wpAnyH_take (i := 22) (v := ?_) rfl (by kernel_rfl) (by kernel_rfl) (by kernel_rfl) (fun _ _ _ h => h) (Or.inl ⟨by rfl, ?_⟩) (by assumption) ?_
                                      rotate_left
                                      · (intro w hSw; (try dsimp only at hSw); go_simp; try (with_reducible rfl))
                                      try simp only [Act.put, List.getElem_toArray, List.getElem_cons_zero, List.getElem_cons_succ, List.setIfInBounds_toArray, List.set_cons_zero, List.set_cons_succ]
                                      refine wpAnyH_ready (rs := [23]) (by kernel_rfl) (by simp) ?_
                                      refine (AllReadyH.cons rfl (fun K hK => ?_) AllReadyH.nil)
                                      · go_simp
                                        clear n1 fa
                                        have HA11 := hide ((HA10.out.num HG10.out hjn aj.tr.num).1)
                                        have HG11 := hide (Nat.lt_of_lt_of_le HG10.out (HA10.out.num HG10.out hjn aj.tr.num).2.ex.size)
                                        have HB11 := hide (HB10.setCell (p := ⟨ga, j * 9 + 2, none⟩) HGA.out (.int .i64 aj.tr.num))
                                        generalize w10.setCell ⟨ga, j * 9 + 2, none⟩ (.int .i64 aj.tr.num) = w11 at *
                                        clear HA9 HG9 HB9 HA10 HG10 HB10
                                        refine hK.out _ _ ?_ (fun hHeld => ?_)
                                        · trivial
                                        clear hK K
                                        try simp only [Act.put, List.getElem_toArray, List.getElem_cons_zero, List.getElem_cons_succ, List.setIfInBounds_toArray, List.set_cons_zero, List.set_cons_succ]
                                        refine wpAnyH_done (by kernel_rfl) ?_ _
                                        go_wp2
                                        first | refine HJ3.out _ _ ?rel (by kernel_rfl) rfl ?measure | refine HJ2.out _ _ ?rel (by kernel_rfl) rfl ?measure
                                        case rel => (try dsimp only [rdA, getL]); (exact ⟨j + 1, mm + 1, hide (by have := HJ.out; omega), by omega, by simp, HA11.out.congr (fun k _ => by rw [HRW.out]; exact swap_at HIJ.out HAIE.out HAJE.out k), HG11.out, HB11.out⟩)
                                        case measure => (try dsimp only [rdA, getL]); (simp [intOf]; omega)
                                · go_simp
                                  refine hK.out _ _ ?_ (fun hHeld => ?_)
                                  · trivial
                                  clear hK K
                                  try simp only [Act.put, List.getElem_toArray, List.getElem_cons_zero, List.getElem_cons_succ, List.setIfInBounds_toArray, List.set_cons_zero, List.set_cons_succ]
                                  refine wpAnyH_ready (rs := [9]) (by kernel_rfl) (by simp) ?_
                                  refine (AllReadyH.cons rfl (fun K hK => ?_) AllReadyH.nil)
                                  · go_simp
                                    refine hK.out _ _ ?_ (fun hHeld => ?_)
                                    · trivial
                                    clear hK K
                                    try simp only [Act.put, List.getElem_toArray, List.getElem_cons_zero, List.getElem_cons_succ, List.setIfInBounds_toArray, List.set_cons_zero, List.set_cons_succ]
                                    refine wpAnyH_take (i := 16) (v := ?_) rfl (by kernel_rfl) (by kernel_rfl) (by kernel_rfl) (fun _ _ _ h => h) (Or.inl ⟨by rfl, ?_⟩) (by assumption) ?_
                                    rotate_left
                                    · (intro w hSw; (try dsimp only at hSw); go_simp; try (with_reducible rfl))
                                    try simp only [Act.put, List.getElem_toArray, List.getElem_cons_zero, List.getElem_cons_succ, List.setIfInBounds_toArray, List.set_cons_zero, List.set_cons_succ]
                                    refine wpAnyH_take (i := 17) (v := ?_) rfl (by kernel_rfl) (by kernel_rfl) (by kernel_rfl) (fun _ _ _ h => h) (Or.inl ⟨by rfl, ?_⟩) (by assumption) ?_
                                    rotate_left
                                    · (intro w hSw; (try dsimp only at hSw); go_simp; try (with_reducible rfl))
                                    try simp only [Act.put, List.getElem_toArray, List.getElem_cons_zero, List.getElem_cons_succ, List.setIfInBounds_toArray, List.set_cons_zero, List.set_cons_succ]
                                    refine wpAnyH_take (i := 18) (v := ?_) rfl (by kernel_rfl) (by kernel_rfl) (by kernel_rfl) (fun _ _ _ h => h) (Or.inl ⟨by rfl, ?_⟩) (by assumption) ?_
                                    rotate_left
                                    · (intro w hSw; (try dsimp only at hSw); go_simp; try (with_reducible rfl))
                                    try simp only [Act.put, List.getElem_toArray, List.getElem_cons_zero, List.getElem_cons_succ, List.setIfInBounds_toArray, List.set_cons_zero, List.set_cons_succ]
                                    refine wpAnyH_ready (rs := [19]) (by kernel_rfl) (by simp) ?_
                                    refine (AllReadyH.cons rfl (fun K hK => ?_) AllReadyH.nil)
                                    · go_simp
                                      clear n1 n2 fa
                                      have HA10 := hide ((HA9.out.num HG9.out hin ai.tr.num).1.dr)
                                      have HG10 := hide (dr_lt (Nat.lt_of_lt_of_le HG9.out (HA9.out.num HG9.out hin ai.tr.num).2.ex.size))
                                      have HB10 := (HB9.out.setCell (p := ⟨ga, i * 9 + 2, none⟩) HGA.out (.int .i64 ai.tr.num)).drew
                                      generalize (w9.setCell ⟨ga, i * 9 + 2, none⟩ (.int .i64 ai.tr.num)).drew = w10 at *
                                      have n1 := (HA10.out.c j hjn).c 2 _ rfl
                                      have fa := HA10.out.f
                                      refine hK.out _ _ ?_ (fun hHeld => ?_)
                                      · trivial
                                      clear hK K
                                      try simp only [Act.put, List.getElem_toArray, List.getElem_cons_zero, List.getElem_cons_succ, List.setIfInBounds_toArray, List.set_cons_zero, List.set_cons_succ]
                                      refine wpAnyH_take (i := 20) (v := ?_) rfl (by kernel_rfl) (by kernel_rfl) (by kernel_rfl) (fun _ _ _ h => h) (Or.inl ⟨by rfl, ?_⟩) (by assumption) ?_
                                      rotate_left
                                      · (intro w hSw; (try dsimp only at hSw); go_simp; try (with_reducible rfl))
                                      try simp only [Act.put, List.getElem_toArray, List.getElem_cons_zero, List.getElem_cons_succ, List.setIfInBounds_toArray, List.set_cons_zero, List.set_cons_succ]
                                      refine wpAnyH_take (i := 21) (v := ?_) rfl (by kernel_rfl) (by kernel_rfl) (by kernel_rfl) (fun _ _ _ h => h) (Or.inl ⟨by rfl, ?_⟩) (by assumption) ?_
                                      rotate_left
                                      · (intro w hSw; (try dsimp only at hSw); go_simp; try (with_reducible rfl))
                                      try simp only [Act.put, List.getElem_toArray, List.getElem_cons_zero, List.getElem_cons_succ, List.setIfInBounds_toArray, List.set_cons_zero, List.set_cons_succ]
                                      refine wpAnyH_take (i := 22) (v := ?_) rfl (by kernel_rfl) (by kernel_rfl) (by kernel_rfl) (fun _ _ _ h => h) (Or.inl ⟨by rfl, ?_⟩) (by assumption) ?_
                                      rotate_left
                                      · (intro w hSw; (try dsimp only at hSw); go_simp; try (with_reducible rfl))
                                      try simp only [Act.put, List.getElem_toArray, List.getElem_cons_zero, List.getElem_cons_succ, List.setIfInBounds_toArray, List.set_cons_zero, List.set_cons_succ]
                                      refine wpAnyH_ready (rs := [23]) (by kernel_rfl) (by simp) ?_
                                      refine (AllReadyH.cons rfl (fun K hK => ?_) AllReadyH.nil)
                                      · go_simp
                                        clear n1 fa
                                        have HA11 := hide ((HA10.out.num HG10.out hjn aj.tr.num).1)
                                        have HG11 := hide (Nat.lt_of_lt_of_le HG10.out (HA10.out.num HG10.out hjn aj.tr.num).2.ex.size)
                                        have HB11 := hide (HB10.setCell (p := ⟨ga, j * 9 + 2, none⟩) HGA.out (.int .i64 aj.tr.num))
                                        generalize w10.setCell ⟨ga, j * 9 + 2, none⟩ (.int .i64 aj.tr.num) = w11 at *
                                        clear HA9 HG9 HB9 HA10 HG10 HB10
                                        refine hK.out _ _ ?_ (fun hHeld => ?_)
                                        · trivial
                                        clear hK K
                                        try simp only [Act.put, List.getElem_toArray, List.getElem_cons_zero, List.getElem_cons_succ, List.setIfInBounds_toArray, List.set_cons_zero, List.set_cons_succ]
                                        refine wpAnyH_done (by kernel_rfl) ?_ _
                                        go_wp2
                                        first | refine HJ3.out _ _ ?rel (by kernel_rfl) rfl ?measure | refine HJ2.out _ _ ?rel (by kernel_rfl) rfl ?measure
                                        case rel => (try dsimp only [rdA, getL]); (exact ⟨j + 1, mm + 1, hide (by have := HJ.out; omega), by omega, by simp, HA11.out.congr (fun k _ => by rw [HRW.out]; exact swap_at HIJ.out HAIE.out HAJE.out k), HG11.out, HB11.out⟩)
                                        case measure => (try dsimp only [rdA, getL]); (simp [intOf]; omega)
                        · go_simp
                          refine hK.out _ _ ?_ (fun hHeld => ?_)
                          · trivial
                          clear hK K
                          try simp only [Act.put, List.getElem_toArray, List.getElem_cons_zero, List.getElem_cons_succ, List.setIfInBounds_toArray, List.set_cons_zero, List.set_cons_succ]
                          refine wpAnyH_ready (rs := [7]) (by kernel_rfl) (by simp) ?_
                          refine (AllReadyH.cons rfl (fun K hK => ?_) AllReadyH.nil)
                          · go_simp
                            refine hK.out _ _ ?_ (fun hHeld => ?_)
                            · trivial
                            clear hK K
                            try simp only [Act.put, List.getElem_toArray, List.getElem_cons_zero, List.getElem_cons_succ, List.setIfInBounds_toArray, List.set_cons_zero, List.set_cons_succ]
                            refine wpAnyH_take (i := 12) (v := ?_) rfl (by kernel_rfl) (by kernel_rfl) (by kernel_rfl) (fun _ _ _ h => h) (Or.inl ⟨by rfl, ?_⟩) (by assumption) ?_
                            rotate_left
                            · (intro w hSw; (try dsimp only at hSw); go_simp; try (with_reducible rfl))
                            try simp only [Act.put, List.getElem_toArray, List.getElem_cons_zero, List.getElem_cons_succ, List.setIfInBounds_toArray, List.set_cons_zero, List.set_cons_succ]
                            refine wpAnyH_ready (rs := [13]) (by kernel_rfl) (by simp) ?_
                            refine (AllReadyH.cons rfl (fun K hK => ?_) AllReadyH.nil)
                            · go_simp
                              rw [show (((((((((w7.setCell ⟨ga, i * 9, none⟩ (.int .i64 aj.tg)).setCell ⟨ga, i * 9 + 1, none⟩ (.int .i64 aj.sk)).setCell ⟨ga, i * 9 + 2, none⟩ (.int .i64 aj.tr.num)).setCell ⟨ga, i * 9 + 3, none⟩ (.int .i64 aj.tr.x)).setCell ⟨ga, i * 9 + 4, none⟩ (.int .i64 aj.tr.y)).setCell ⟨ga, i * 9 + 5, none⟩ (.int .i64 aj.tr.co)).setCell ⟨ga, i * 9 + 6, none⟩ (.int .i64 aj.tr.sp)).setCell ⟨ga, i * 9 + 7, none⟩ (.int .i64 aj.tr.st)).setCell ⟨ga, i * 9 + 8, none⟩ (.int .i64 aj.tr.ag)) = w7.setCells ga (i * 9) (Ev aj) from rfl]
                              clear y0 y1 y2 y3 y4 y5 y6 y7 y8 u0' u1' u2' u3' u4' u5' u6' u7' u8' fa
                              have HA8 := hide ((HA7.out.fill HG7.out hin aj).1.dr)
                              have HG8 := hide (dr_lt (Nat.lt_of_lt_of_le HG7.out (HA7.out.fill HG7.out hin aj).2.ex.size))
                              have HB8 := (bel_setsE (vs := Ev aj) (i * 9) HB7.out HGA.out).drew
                              generalize (w7.setCells ga (i * 9) (Ev aj)).drew = w8 at *
                              have q := HA8.out.c j hjn
                              obtain ⟨u0', u1', u2', u3', u4', u5', u6', u7', u8'⟩ := q.ee
                              have fa := HA8.out.f
                              clear q
                              refine hK.out _ _ ?_ (fun hHeld => ?_)
                              · trivial
                              clear hK K
                              try simp only [Act.put, List.getElem_toArray, List.getElem_cons_zero, List.getElem_cons_succ, List.setIfInBounds_toArray, List.set_cons_zero, List.set_cons_succ]
                              refine wpAnyH_take (i := 14) (v := ?_) rfl (by kernel_rfl) (by kernel_rfl) (by kernel_rfl) (fun _ _ _ h => h) (Or.inl ⟨by rfl, ?_⟩) (by assumption) ?_
                              rotate_left
                              · (intro w hSw; (try dsimp only at hSw); go_simp; try (with_reducible rfl))
                              try simp only [Act.put, List.getElem_toArray, List.getElem_cons_zero, List.getElem_cons_succ, List.setIfInBounds_toArray, List.set_cons_zero, List.set_cons_succ]
                              refine wpAnyH_ready (rs := [15]) (by kernel_rfl) (by simp) ?_
                              refine (AllReadyH.cons rfl (fun K hK => ?_) AllReadyH.nil)
                              · go_simp
                                rw [show (((((((((w8.setCell ⟨ga, j * 9, none⟩ (.int .i64 ai.tg)).setCell ⟨ga, j * 9 + 1, none⟩ (.int .i64 ai.sk)).setCell ⟨ga, j * 9 + 2, none⟩ (.int .i64 ai.tr.num)).setCell ⟨ga, j * 9 + 3, none⟩ (.int .i64 ai.tr.x)).setCell ⟨ga, j * 9 + 4, none⟩ (.int .i64 ai.tr.y)).setCell ⟨ga, j * 9 + 5, none⟩ (.int .i64 ai.tr.co)).setCell ⟨ga, j * 9 + 6, none⟩ (.int .i64 ai.tr.sp)).setCell ⟨ga, j * 9 + 7, none⟩ (.int .i64 ai.tr.st)).setCell ⟨ga, j * 9 + 8, none⟩ (.int .i64 ai.tr.ag)) = w8.setCells ga (j * 9) (Ev ai) from rfl]
                                clear u0' u1' u2' u3' u4' u5' u6' u7' u8' fa
                                have HA9 := hide ((HA8.out.fill HG8.out hjn ai).1)
                                have HG9 := hide (Nat.lt_of_lt_of_le HG8.out (HA8.out.fill HG8.out hjn ai).2.ex.size)
                                have HB9 := hide (bel_setsE (vs := Ev ai) (j * 9) HB8 HGA.out)
                                generalize w8.setCells ga (j * 9) (Ev ai) = w9 at *
                                clear HA8 HG8 HB8
                                refine hK.out _ _ ?_ (fun hHeld => ?_)
                                · trivial
                                clear hK K
                                try simp only [Act.put, List.getElem_toArray, List.getElem_cons_zero, List.getElem_cons_succ, List.setIfInBounds_toArray, List.set_cons_zero, List.set_cons_succ]
                                refine wpAnyH_done (by kernel_rfl) ?_ _
                                have n1 : w9.cell? ⟨ga, j * 9 + 2, none⟩ = some (.int .i64 ai.tr.num) := by have := (HA9.out.c j hjn).c 2 _ rfl; rw [upd_same] at this; exact this
                                have n2 : w9.cell? ⟨ga, i * 9 + 2, none⟩ = some (.int .i64 aj.tr.num) := by have := (HA9.out.c i hin).c 2 _ rfl; rw [upd_ne _ _ HIJ.out, upd_same] at this; exact this
                                have fa := HA9.out.f
                                go_upto_region 18 with fail
                                refine wp_region_held_drew (S := fun w' => True) (by kernel_rfl) trivial (fun hHeld => ?_)
                                refine wpAnyH_take (i := 0) (v := ?_) rfl (by kernel_rfl) (by kernel_rfl) (by kernel_rfl) (fun _ _ _ h => h) (Or.inl ⟨by rfl, ?_⟩) (by assumption) ?_
                                rotate_left
                                · (intro w hSw; (try dsimp only at hSw); go_simp; try (with_reducible rfl))
                                try simp only [Act.put, List.getElem_toArray, List.getElem_cons_zero, List.getElem_cons_succ, List.setIfInBounds_toArray, List.set_cons_zero, List.set_cons_succ]
                                refine wpAnyH_take (i := 1) (v := ?_) rfl (by kernel_rfl) (by kernel_rfl) (by kernel_rfl) (fun _ _ _ h => h) (Or.inl ⟨by rfl, ?_⟩) (by assumption) ?_
                                rotate_left
                                · (intro w hSw; (try dsimp only at hSw); go_simp; try (with_reducible rfl))
                                try simp only [Act.put, List.getElem_toArray, List.getElem_cons_zero, List.getElem_cons_succ, List.setIfInBounds_toArray, List.set_cons_zero, List.set_cons_succ]
                                refine wpAnyH_take (i := 2) (v := ?_) rfl (by kernel_rfl) (by kernel_rfl) (by kernel_rfl) (fun _ _ _ h => h) (Or.inl ⟨by rfl, ?_⟩) (by assumption) ?_
                                rotate_left
                                · (intro w hSw; (try dsimp only at hSw); go_simp; try (with_reducible rfl))
                                try simp only [Act.put, List.getElem_toArray, List.getElem_cons_zero, List.getElem_cons_succ, List.setIfInBounds_toArray, List.set_cons_zero, List.set_cons_succ]
                                refine wpAnyH_take (i := 3) (v := ?_) rfl (by kernel_rfl) (by kernel_rfl) (by kernel_rfl) (fun _ _ _ h => h) (Or.inl ⟨by rfl, ?_⟩) (by assumption) ?_
                                rotate_left
                                · (intro w hSw; (try dsimp only at hSw); go_simp; try (with_reducible rfl))
                                try simp only [Act.put, List.getElem_toArray, List.getElem_cons_zero, List.getElem_cons_succ, List.setIfInBounds_toArray, List.set_cons_zero, List.set_cons_succ]
                                refine wpAnyH_take (i := 4) (v := ?_) rfl (by kernel_rfl) (by kernel_rfl) (by kernel_rfl) (fun _ _ _ h => h) (Or.inl ⟨by rfl, ?_⟩) (by assumption) ?_
                                rotate_left
                                · (intro w hSw; (try dsimp only at hSw); go_simp; try (with_reducible rfl))
                                try simp only [Act.put, List.getElem_toArray, List.getElem_cons_zero, List.getElem_cons_succ, List.setIfInBounds_toArray, List.set_cons_zero, List.set_cons_succ]
                                refine wpAnyH_take (i := 5) (v := ?_) rfl (by kernel_rfl) (by kernel_rfl) (by kernel_rfl) (fun _ _ _ h => h) (Or.inl ⟨by rfl, ?_⟩) (by assumption) ?_
                                rotate_left
                                · (intro w hSw; (try dsimp only at hSw); go_simp; try (with_reducible rfl))
                                try simp only [Act.put, List.getElem_toArray, List.getElem_cons_zero, List.getElem_cons_succ, List.setIfInBounds_toArray, List.set_cons_zero, List.set_cons_succ]
                                refine wpAnyH_take (i := 6) (v := ?_) rfl (by kernel_rfl) (by kernel_rfl) (by kernel_rfl) (fun _ _ _ h => h) (Or.inl ⟨by rfl, ?_⟩) (by assumption) ?_
                                rotate_left
                                · (intro w hSw; (try dsimp only at hSw); go_simp; try (with_reducible rfl))
                                try simp only [Act.put, List.getElem_toArray, List.getElem_cons_zero, List.getElem_cons_succ, List.setIfInBounds_toArray, List.set_cons_zero, List.set_cons_succ]
                                refine wpAnyH_take (i := 7) (v := ?_) rfl (by kernel_rfl) (by kernel_rfl) (by kernel_rfl) (fun _ _ _ h => h) (Or.inl ⟨by rfl, ?_⟩) (by assumption) ?_
                                rotate_left
                                · (intro w hSw; (try dsimp only at hSw); go_simp; try (with_reducible rfl))
                                try simp only [Act.put, List.getElem_toArray, List.getElem_cons_zero, List.getElem_cons_succ, List.setIfInBounds_toArray, List.set_cons_zero, List.set_cons_succ]
                                refine wpAnyH_take (i := 8) (v := ?_) rfl (by kernel_rfl) (by kernel_rfl) (by kernel_rfl) (fun _ _ _ h => h) (Or.inl ⟨by rfl, ?_⟩) (by assumption) ?_
                                rotate_left
                                · (intro w hSw; (try dsimp only at hSw); go_simp; try (with_reducible rfl))
                                try simp only [Act.put, List.getElem_toArray, List.getElem_cons_zero, List.getElem_cons_succ, List.setIfInBounds_toArray, List.set_cons_zero, List.set_cons_succ]
                                refine wpAnyH_take (i := 10) (v := ?_) rfl (by kernel_rfl) (by kernel_rfl) (by kernel_rfl) (fun _ _ _ h => h) (Or.inl ⟨by rfl, ?_⟩) (by assumption) ?_
                                rotate_left
                                · (intro w hSw; (try dsimp only at hSw); go_simp; try (with_reducible rfl))
                                try simp only [Act.put, List.getElem_toArray, List.getElem_cons_zero, List.getElem_cons_succ, List.setIfInBounds_toArray, List.set_cons_zero, List.set_cons_succ]
                                refine wpAnyH_take (i := 11) (v := ?_) rfl (by kernel_rfl) (by kernel_rfl) (by kernel_rfl) (fun _ _ _ h => h) (Or.inl ⟨by rfl, ?_⟩) (by assumption) ?_
                                rotate_left
                                · (intro w hSw; (try dsimp only at hSw); go_simp; try (with_reducible rfl))
                                try simp only [Act.put, List.getElem_toArray, List.getElem_cons_zero, List.getElem_cons_succ, List.setIfInBounds_toArray, List.set_cons_zero, List.set_cons_succ]
                                refine wpAnyH_take (i := 12) (v := ?_) rfl (by kernel_rfl) (by kernel_rfl) (by kernel_rfl) (fun _ _ _ h => h) (Or.inl ⟨by rfl, ?_⟩) (by assumption) ?_
                                rotate_left
                                · (intro w hSw; (try dsimp only at hSw); go_simp; try (with_reducible rfl))
                                try simp only [Act.put, List.getElem_toArray, List.getElem_cons_zero, List.getElem_cons_succ, List.setIfInBounds_toArray, List.set_cons_zero, List.set_cons_succ]
                                refine wpAnyH_take (i := 13) (v := ?_) rfl (by kernel_rfl) (by kernel_rfl) (by kernel_rfl) (fun _ _ _ h => h) (Or.inl ⟨by rfl, ?_⟩) (by assumption) ?_
                                rotate_left
                                · (intro w hSw; (try dsimp only at hSw); go_simp; try (with_reducible rfl))
                                try simp only [Act.put, List.getElem_toArray, List.getElem_cons_zero, List.getElem_cons_succ, List.setIfInBounds_toArray, List.set_cons_zero, List.set_cons_succ]
                                refine wpAnyH_take (i := 14) (v := ?_) rfl (by kernel_rfl) (by kernel_rfl) (by kernel_rfl) (fun _ _ _ h => h) (Or.inl ⟨by rfl, ?_⟩) (by assumption) ?_
                                rotate_left
                                · (intro w hSw; (try dsimp only at hSw); go_simp; try (with_reducible rfl))
                                try simp only [Act.put, List.getElem_toArray, List.getElem_cons_zero, List.getElem_cons_succ, List.setIfInBounds_toArray, List.set_cons_zero, List.set_cons_succ]
                                refine wpAnyH_ready (rs := [9, 15]) (by kernel_rfl) (by simp) ?_
                                refine (AllReadyH.cons rfl (fun K hK => ?_) (AllReadyH.cons rfl (fun K hK => ?_) AllReadyH.nil))
                                · go_simp
                                  refine hK.out _ _ ?_ (fun hHeld => ?_)
                                  · trivial
                                  clear hK K
                                  try simp only [Act.put, List.getElem_toArray, List.getElem_cons_zero, List.getElem_cons_succ, List.setIfInBounds_toArray, List.set_cons_zero, List.set_cons_succ]
                                  refine wpAnyH_ready (rs := [15]) (by kernel_rfl) (by simp) ?_
                                  refine (AllReadyH.cons rfl (fun K hK => ?_) AllReadyH.nil)
                                  · go_simp
                                    refine hK.out _ _ ?_ (fun hHeld => ?_)
                                    · trivial
                                    clear hK K
                                    try simp only [Act.put, List.getElem_toArray, List.getElem_cons_zero, List.getElem_cons_succ, List.setIfInBounds_toArray, List.set_cons_zero, List.set_cons_succ]
                                    refine wpAnyH_take (i := 16) (v := ?_) rfl (by kernel_rfl) (by kernel_rfl) (by kernel_rfl) (fun _ _ _ h => h) (Or.inl ⟨by rfl, ?_⟩) (by assumption) ?_
                                    rotate_left
                                    · (intro w hSw; (try dsimp only at hSw); go_simp; try (with_reducible rfl))
                                    try simp only [Act.put, List.getElem_toArray, List.getElem_cons_zero, List.getElem_cons_succ, List.setIfInBounds_toArray, List.set_cons_zero, List.set_cons_succ]
                                    refine wpAnyH_take (i := 17) (v := ?_) rfl (by kernel_rfl) (by kernel_rfl) (by kernel_rfl) (fun _ _ _ h => h) (Or.inl ⟨by rfl, ?_⟩) (by assumption) ?_
                                    rotate_left
                                    · (intro w hSw; (try dsimp only at hSw); go_simp; try (with_reducible rfl))
                                    try simp only [Act.put, List.getElem_toArray, List.getElem_cons_zero, List.getElem_cons_succ, List.setIfInBounds_toArray, List.set_cons_zero, List.set_cons_succ]
                                    refine wpAnyH_take (i := 18) (v := ?_) rfl (by kernel_rfl) (by kernel_rfl) (by kernel_rfl) (fun _ _ _ h => h) (Or.inl ⟨by rfl, ?_⟩) (by assumption) ?_
                                    rotate_left
                                    · (intro w hSw; (try dsimp only at hSw); go_simp; try (with_reducible rfl))
                                    try simp only [Act.put, List.getElem_toArray, List.getElem_cons_zero, List.getElem_cons_succ, List.setIfInBounds_toArray, List.set_cons_zero, List.set_cons_succ]
                                    refine wpAnyH_ready (rs := [19]) (by kernel_rfl) (by simp) ?_
                                    refine (AllReadyH.cons rfl (fun K hK => ?_) AllReadyH.nil)
                                    · go_simp
                                      clear n1 n2 fa
                                      have HA10 := hide ((HA9.out.num HG9.out hin ai.tr.num).1.dr)
                                      have HG10 := hide (dr_lt (Nat.lt_of_lt_of_le HG9.out (HA9.out.num HG9.out hin ai.tr.num).2.ex.size))
                                      have HB10 := (HB9.out.setCell (p := ⟨ga, i * 9 + 2, none⟩) HGA.out (.int .i64 ai.tr.num)).drew
                                      generalize (w9.setCell ⟨ga, i * 9 + 2, none⟩ (.int .i64 ai.tr.num)).drew = w10 at *
                                      have n1 := (HA10.out.c j hjn).c 2 _ rfl
                                      have fa := HA10.out.f
                                      refine hK.out _ _ ?_ (fun hHeld => ?_)
                                      · trivial
                                      clear hK K
                                      try simp only [Act.put, List.getElem_toArray, List.getElem_cons_zero, List.getElem_cons_succ, List.setIfInBounds_toArray, List.set_cons_zero, List.set_cons_succ]
                                      refine wpAnyH_take (i := 20) (v := ?_) rfl (by kernel_rfl) (by kernel_rfl) (by kernel_rfl) (fun _ _ _ h => h) (Or.inl ⟨by rfl, ?_⟩) (by assumption) ?_
                                      rotate_left
                                      · (intro w hSw; (try dsimp only at hSw); go_simp; try (with_reducible rfl))
                                      try simp only [Act.put, List.getElem_toArray, List.getElem_cons_zero, List.getElem_cons_succ, List.setIfInBounds_toArray, List.set_cons_zero, List.set_cons_succ]
                                      refine wpAnyH_take (i := 21) (v := ?_) rfl (by kernel_rfl) (by kernel_rfl) (by kernel_rfl) (fun _ _ _ h => h) (Or.inl ⟨by rfl, ?_⟩) (by assumption) ?_
                                      rotate_left
                                      · (intro w hSw; (try dsimp only at hSw); go_simp; try (with_reducible rfl))
                                      try simp only [Act.put, List.getElem_toArray, List.getElem_cons_zero, List.getElem_cons_succ, List.setIfInBounds_toArray, List.set_cons_zero, List.set_cons_succ]
                                      refine wpAnyH_take (i := 22) (v := ?_) rfl (by kernel_rfl) (by kernel_rfl) (by kernel_rfl) (fun _ _ _ h => h) (Or.inl ⟨by rfl, ?_⟩) (by assumption) ?_
                                      rotate_left
                                      · (intro w hSw; (try dsimp only at hSw); go_simp; try (with_reducible rfl))
                                      try simp only [Act.put, List.getElem_toArray, List.getElem_cons_zero, List.getElem_cons_succ, List.setIfInBounds_toArray, List.set_cons_zero, List.set_cons_succ]
                                      refine wpAnyH_ready (rs := [23]) (by kernel_rfl) (by simp) ?_
                                      refine (AllReadyH.cons rfl (fun K hK => ?_) AllReadyH.nil)
                                      · go_simp
                                        clear n1 fa
                                        have HA11 := hide ((HA10.out.num HG10.out hjn aj.tr.num).1)
                                        have HG11 := hide (Nat.lt_of_lt_of_le HG10.out (HA10.out.num HG10.out hjn aj.tr.num).2.ex.size)
                                        have HB11 := hide (HB10.setCell (p := ⟨ga, j * 9 + 2, none⟩) HGA.out (.int .i64 aj.tr.num))
                                        generalize w10.setCell ⟨ga, j * 9 + 2, none⟩ (.int .i64 aj.tr.num) = w11 at *
                                        clear HA9 HG9 HB9 HA10 HG10 HB10
                                        refine hK.out _ _ ?_ (fun hHeld => ?_)
                                        · trivial
                                        clear hK K
                                        try simp only [Act.put, List.getElem_toArray, List.getElem_cons_zero, List.getElem_cons_succ, List.setIfInBounds_toArray, List.set_cons_zero, List.set_cons_succ]
                                        refine wpAnyH_done (by kernel_rfl) ?_ _
                                        go_wp2
                                        first | refine HJ3.out _ _ ?rel (by kernel_rfl) rfl ?measure | refine HJ2.out _ _ ?rel (by kernel_rfl) rfl ?measure
                                        case rel => (try dsimp only [rdA, getL]); (exact ⟨j + 1, mm + 1, hide (by have := HJ.out; omega), by omega, by simp, HA11.out.congr (fun k _ => by rw [HRW.out]; exact swap_at HIJ.out HAIE.out HAJE.out k), HG11.out, HB11.out⟩)
                                        case measure => (try dsimp only [rdA, getL]); (simp [intOf]; omega)
                                · go_simp
                                  refine hK.out _ _ ?_ (fun hHeld => ?_)
                                  · trivial
                                  clear hK K
                                  try simp only [Act.put, List.getElem_toArray, List.getElem_cons_zero, List.getElem_cons_succ, List.setIfInBounds_toArray, List.set_cons_zero, List.set_cons_succ]
                                  refine wpAnyH_ready (rs := [9]) (by kernel_rfl) (by simp) ?_
                                  refine (AllReadyH.cons rfl (fun K hK => ?_) AllReadyH.nil)
                                  · go_simp
                                    refine hK.out _ _ ?_ (fun hHeld => ?_)
                                    · trivial
                                    clear hK K
                                    try simp only [Act.put, List.getElem_toArray, List.getElem_cons_zero, List.getElem_cons_succ, List.setIfInBounds_toArray, List.set_cons_zero, List.set_cons_succ]
                                    refine wpAnyH_take (i := 16) (v := ?_) rfl (by kernel_rfl) (by kernel_rfl) (by kernel_rfl) (fun _ _ _ h => h) (Or.inl ⟨by rfl, ?_⟩) (by assumption) ?_
                                    rotate_left
                                    · (intro w hSw; (try dsimp only at hSw); go_simp; try (with_reducible rfl))
                                    try simp only [Act.put, List.getElem_toArray, List.getElem_cons_zero, List.getElem_cons_succ, List.setIfInBounds_toArray, List.set_cons_zero, List.set_cons_succ]
                                    refine wpAnyH_take (i := 17) (v := ?_) rfl (by kernel_rfl) (by kernel_rfl) (by kernel_rfl) (fun _ _ _ h => h) (Or.inl ⟨by rfl, ?_⟩) (by assumption) ?_
                                    rotate_left
                                    · (intro w hSw; (try dsimp only at hSw); go_simp; try (with_reducible rfl))
                                    try simp only [Act.put, List.getElem_toArray, List.getElem_cons_zero, List.getElem_cons_succ, List.setIfInBounds_toArray, List.set_cons_zero, List.set_cons_succ]
                                    refine wpAnyH_take (i := 18) (v := ?_) rfl (by kernel_rfl) (by kernel_rfl) (by kernel_rfl) (fun _ _ _ h => h) (Or.inl ⟨by rfl, ?_⟩) (by assumption) ?_
                                    rotate_left
                                    · (intro w hSw; (try dsimp only at hSw); go_simp; try (with_reducible rfl))
                                    try simp only [Act.put, List.getElem_toArray, List.getElem_cons_zero, List.getElem_cons_succ, List.setIfInBounds_toArray, List.set_cons_zero, List.set_cons_succ]
                                    refine wpAnyH_ready (rs := [19]) (by kernel_rfl) (by simp) ?_
                                    refine (AllReadyH.cons rfl (fun K hK => ?_) AllReadyH.nil)
                                    · go_simp
                                      clear n1 n2 fa
                                      have HA10 := hide ((HA9.out.num HG9.out hin ai.tr.num).1.dr)
                                      have HG10 := hide (dr_lt (Nat.lt_of_lt_of_le HG9.out (HA9.out.num HG9.out hin ai.tr.num).2.ex.size))
                                      have HB10 := (HB9.out.setCell (p := ⟨ga, i * 9 + 2, none⟩) HGA.out (.int .i64 ai.tr.num)).drew
                                      generalize (w9.setCell ⟨ga, i * 9 + 2, none⟩ (.int .i64 ai.tr.num)).drew = w10 at *
                                      have n1 := (HA10.out.c j hjn).c 2 _ rfl
                                      have fa := HA10.out.f
                                      refine hK.out _ _ ?_ (fun hHeld => ?_)
                                      · trivial
                                      clear hK K
                                      try simp only [Act.put, List.getElem_toArray, List.getElem_cons_zero, List.getElem_cons_succ, List.setIfInBounds_toArray, List.set_cons_zero, List.set_cons_succ]
                                      refine wpAnyH_take (i := 20) (v := ?_) rfl (by kernel_rfl) (by kernel_rfl) (by kernel_rfl) (fun _ _ _ h => h) (Or.inl ⟨by rfl, ?_⟩) (by assumption) ?_
                                      rotate_left
                                      · (intro w hSw; (try dsimp only at hSw); go_simp; try (with_reducible rfl))
                                      try simp only [Act.put, List.getElem_toArray, List.getElem_cons_zero, List.getElem_cons_succ, List.setIfInBounds_toArray, List.set_cons_zero, List.set_cons_succ]
                                      refine wpAnyH_take (i := 21) (v := ?_) rfl (by kernel_rfl) (by kernel_rfl) (by kernel_rfl) (fun _ _ _ h => h) (Or.inl ⟨by rfl, ?_⟩) (by assumption) ?_
                                      rotate_left
                                      · (intro w hSw; (try dsimp only at hSw); go_simp; try (with_reducible rfl))
                                      try simp only [Act.put, List.getElem_toArray, List.getElem_cons_zero, List.getElem_cons_succ, List.setIfInBounds_toArray, List.set_cons_zero, List.set_cons_succ]
                                      refine wpAnyH_take (i := 22) (v := ?_) rfl (by kernel_rfl) (by kernel_rfl) (by kernel_rfl) (fun _ _ _ h => h) (Or.inl ⟨by rfl, ?_⟩) (by assumption) ?_
                                      rotate_left
                                      · (intro w hSw; (try dsimp only at hSw); go_simp; try (with_reducible rfl))
                                      try simp only [Act.put, List.getElem_toArray, List.getElem_cons_zero, List.getElem_cons_succ, List.setIfInBounds_toArray, List.set_cons_zero, List.set_cons_succ]
                                      refine wpAnyH_ready (rs := [23]) (by kernel_rfl) (by simp) ?_
                                      refine (AllReadyH.cons rfl (fun K hK => ?_) AllReadyH.nil)
                                      · go_simp
                                        clear n1 fa
                                        have HA11 := hide ((HA10.out.num HG10.out hjn aj.tr.num).1)
                                        have HG11 := hide (Nat.lt_of_lt_of_le HG10.out (HA10.out.num HG10.out hjn aj.tr.num).2.ex.size)
                                        have HB11 := hide (HB10.setCell (p := ⟨ga, j * 9 + 2, none⟩) HGA.out (.int .i64 aj.tr.num))
                                        generalize w10.setCell ⟨ga, j * 9 + 2, none⟩ (.int .i64 aj.tr.num) = w11 at *
                                        clear HA9 HG9 HB9 HA10 HG10 HB10
                                        refine hK.out _ _ ?_ (fun hHeld => ?_)
                                        · trivial
                                        clear hK K
                                        try simp only [Act.put, List.getElem_toArray, List.getElem_cons_zero, List.getElem_cons_succ, List.setIfInBounds_toArray, List.set_cons_zero, List.set_cons_succ]
                                        refine wpAnyH_done (by kernel_rfl) ?_ _
                                        go_wp2
                                        first | refine HJ3.out _ _ ?rel (by kernel_rfl) rfl ?measure | refine HJ2.out _ _ ?rel (by kernel_rfl) rfl ?measure
                                        case rel => (try dsimp only [rdA, getL]); (exact ⟨j + 1, mm + 1, hide (by have := HJ.out; omega), by omega, by simp, HA11.out.congr (fun k _ => by rw [HRW.out]; exact swap_at HIJ.out HAIE.out HAJE.out k), HG11.out, HB11.out⟩)
                                        case measure => (try dsimp only [rdA, getL]); (simp [intOf]; omega)
            · have hlb : decide (keyP aj < keyP ai) = false := by simpa using hkl
              rw [if_neg (fun z => hkl z.2)] at HRW
              clear hkk hkl
              refine wp_region_held_drew (S := fun w' => w'.cell? ⟨mb, o, none⟩ = some (.slice (some ⟨ge, 0, none⟩) n c) ∧ RA w' ge (i * 9) (Ev ei) ∧ RA w' ge (j * 9) (Ev ej) ∧ RA w' ga (i * 9) (Ev ai) ∧ RA w' ga (j * 9) (Ev aj)) (by kernel_rfl) zS (fun hHeld => ?_)
              refine wpAnyH_take (i := 0) (v := ?_) rfl (by kernel_rfl) (by kernel_rfl) (by kernel_rfl) (fun _ _ _ h => h) (Or.inl ⟨by rfl, ?_⟩) (by assumption) ?_
              rotate_left
              · (intro w hSw; (try dsimp only at hSw); go_simp; try (with_reducible rfl))
              try simp only [Act.put, List.getElem_toArray, List.getElem_cons_zero, List.getElem_cons_succ, List.setIfInBounds_toArray, List.set_cons_zero, List.set_cons_succ]
              refine wpAnyH_take (i := 1) (v := ?_) rfl (by kernel_rfl) (by kernel_rfl) (by kernel_rfl) (fun _ _ _ h => h) (Or.inl ⟨by rfl, ?_⟩) (by assumption) ?_
              rotate_left
              · (intro w hSw; (try dsimp only at hSw); go_simp; try (with_reducible rfl))
              try simp only [Act.put, List.getElem_toArray, List.getElem_cons_zero, List.getElem_cons_succ, List.setIfInBounds_toArray, List.set_cons_zero, List.set_cons_succ]
              refine wpAnyH_take (i := 2) (v := ?_) rfl (by kernel_rfl) (by kernel_rfl) (by kernel_rfl) (fun _ _ _ h => h) (Or.inl ⟨by rfl, ?_⟩) (by assumption) ?_
              rotate_left
              · (intro w hSw; (try dsimp only at hSw); go_simp; try (with_reducible rfl))
              try simp only [Act.put, List.getElem_toArray, List.getElem_cons_zero, List.getElem_cons_succ, List.setIfInBounds_toArray, List.set_cons_zero, List.set_cons_succ]
              refine wpAnyH_take (i := 3) (v := ?_) rfl (by kernel_rfl) (by kernel_rfl) (by kernel_rfl) (fun _ _ _ h => h) (Or.inl ⟨by rfl, ?_⟩) (by assumption) ?_
              rotate_left
              · (intro w hSw; (try dsimp only at hSw); ((have z := hSw.1)); go_simp; try (with_reducible rfl))
              try simp only [Act.put, List.getElem_toArray, List.getElem_cons_zero, List.getElem_cons_succ, List.setIfInBounds_toArray, List.set_cons_zero, List.set_cons_succ]
              refine wpAnyH_take (i := 4) (v := ?_) rfl (by kernel_rfl) (by kernel_rfl) (by kernel_rfl) (fun _ _ _ h => h) (Or.inl ⟨by rfl, ?_⟩) (by assumption) ?_
              rotate_left
              · (intro w hSw; (try dsimp only at hSw); go_simp; try (with_reducible rfl))
              try simp only [Act.put, List.getElem_toArray, List.getElem_cons_zero, List.getElem_cons_succ, List.setIfInBounds_toArray, List.set_cons_zero, List.set_cons_succ]
              refine wpAnyH_take (i := 5) (v := ?_) rfl (by kernel_rfl) (by kernel_rfl) (by kernel_rfl) (fun _ _ _ h => h) (Or.inl ⟨by rfl, ?_⟩) (by assumption) ?_
              rotate_left
              · (intro w hSw; (try dsimp only at hSw); go_simp; try (with_reducible rfl))
              try simp only [Act.put, List.getElem_toArray, List.getElem_cons_zero, List.getElem_cons_succ, List.setIfInBounds_toArray, List.set_cons_zero, List.set_cons_succ]
              refine wpAnyH_take (i := 6) (v := ?_) rfl (by kernel_rfl) (by kernel_rfl) (by kernel_rfl) (fun _ _ _ h => h) (Or.inl ⟨by rfl, ?_⟩) (by assumption) ?_
              rotate_left
              · (intro w hSw; (try dsimp only at hSw); ((obtain ⟨z0, z1, z2, z3, z4, z5, z6, z7, z8⟩ := hSw.2.1.ee)); go_simp; try (with_reducible rfl))
              try simp only [Act.put, List.getElem_toArray, List.getElem_cons_zero, List.getElem_cons_succ, List.setIfInBounds_toArray, List.set_cons_zero, List.set_cons_succ]
              refine wpAnyH_take (i := 8) (v := ?_) rfl (by kernel_rfl) (by kernel_rfl) (by kernel_rfl) (fun _ _ _ h => h) (Or.inl ⟨by rfl, ?_⟩) (by assumption) ?_
              rotate_left
              · (intro w hSw; (try dsimp only at hSw); go_simp; try (with_reducible rfl))
              try simp only [Act.put, List.getElem_toArray, List.getElem_cons_zero, List.getElem_cons_succ, List.setIfInBounds_toArray, List.set_cons_zero, List.set_cons_succ]
              refine wpAnyH_take (i := 9) (v := ?_) rfl (by kernel_rfl) (by kernel_rfl) (by kernel_rfl) (fun _ _ _ h => h) (Or.inl ⟨by rfl, ?_⟩) (by assumption) ?_
              rotate_left
              · (intro w hSw; (try dsimp only at hSw); go_simp; try (with_reducible rfl))
              try simp only [Act.put, List.getElem_toArray, List.getElem_cons_zero, List.getElem_cons_succ, List.setIfInBounds_toArray, List.set_cons_zero, List.set_cons_succ]
              refine wpAnyH_take (i := 10) (v := ?_) rfl (by kernel_rfl) (by kernel_rfl) (by kernel_rfl) (fun _ _ _ h => h) (Or.inl ⟨by rfl, ?_⟩) (by assumption) ?_
              rotate_left
              · (intro w hSw; (try dsimp only at hSw); go_simp; try (with_reducible rfl))
              try simp only [Act.put, List.getElem_toArray, List.getElem_cons_zero, List.getElem_cons_succ, List.setIfInBounds_toArray, List.set_cons_zero, List.set_cons_succ]
              refine wpAnyH_take (i := 11) (v := ?_) rfl (by kernel_rfl) (by kernel_rfl) (by kernel_rfl) (fun _ _ _ h => h) (Or.inl ⟨by rfl, ?_⟩) (by assumption) ?_
              rotate_left
              · (intro w hSw; (try dsimp only at hSw); ((have z := hSw.1)); go_simp; try (with_reducible rfl))
              try simp only [Act.put, List.getElem_toArray, List.getElem_cons_zero, List.getElem_cons_succ, List.setIfInBounds_toArray, List.set_cons_zero, List.set_cons_succ]
              refine wpAnyH_take (i := 12) (v := ?_) rfl (by kernel_rfl) (by kernel_rfl) (by kernel_rfl) (fun _ _ _ h => h) (Or.inl ⟨by rfl, ?_⟩) (by assumption) ?_
              rotate_left
              · (intro w hSw; (try dsimp only at hSw); go_simp; try (with_reducible rfl))
              try simp only [Act.put, List.getElem_toArray, List.getElem_cons_zero, List.getElem_cons_succ, List.setIfInBounds_toArray, List.set_cons_zero, List.set_cons_succ]
              refine wpAnyH_take (i := 13) (v := ?_) rfl (by kernel_rfl) (by kernel_rfl) (by kernel_rfl) (fun _ _ _ h => h) (Or.inl ⟨by rfl, ?_⟩) (by assumption) ?_
              rotate_left
              · (intro w hSw; (try dsimp only at hSw); go_simp; try (with_reducible rfl))
              try simp only [Act.put, List.getElem_toArray, List.getElem_cons_zero, List.getElem_cons_succ, List.setIfInBounds_toArray, List.set_cons_zero, List.set_cons_succ]
              refine wpAnyH_take (i := 14) (v := ?_) rfl (by kernel_rfl) (by kernel_rfl) (by kernel_rfl) (fun _ _ _ h => h) (Or.inl ⟨by rfl, ?_⟩) (by assumption) ?_
              rotate_left
              · (intro w hSw; (try dsimp only at hSw); ((obtain ⟨z0, z1, z2, z3, z4, z5, z6, z7, z8⟩ := hSw.2.2.1.ee)); go_simp; try (with_reducible rfl))
              try simp only [Act.put, List.getElem_toArray, List.getElem_cons_zero, List.getElem_cons_succ, List.setIfInBounds_toArray, List.set_cons_zero, List.set_cons_succ]
              refine wpAnyH_ready (rs := [7]) (by kernel_rfl) (by simp) ?_
              refine (AllReadyH.cons rfl (fun K hK => ?_) AllReadyH.nil)
              · refine step_call rfl 66 #[.agg #[.int .i64 ei.tg, .int .i64 ei.sk, .int .i64 ei.tr.num, .int .i64 ei.tr.x, .int .i64 ei.tr.y, .int .i64 ei.tr.co, .int .i64 ei.tr.sp, .int .i64 ei.tr.st, .int .i64 ei.tr.ag]] (by simp [go_sem]) (key_any _ ei) ?_
                rintro e' w3 ⟨rfl, b3⟩
                replace b3 := of_drew b3
                have HA3 := hide (HA.out.below HG.out b3)
                have HG3 := hide (Nat.lt_of_lt_of_le HG.out b3.size)
                have HB3 := hide (lec HB.out b3)
                have zS3 := zz _ HA3.out HB3.out
                clear b3
                refine ⟨_, rfl, ?_⟩
                refine hK.out _ _ ?_ (fun hHeld => ?_)
                · (first | with_reducible exact zS | with_reducible exact zS3 | with_reducible exact zS4 | with_reducible exact zS5 | with_reducible exact zS6 | with_reducible exact zS7 | exact zS)
                clear hK K
                try simp only [Act.put, List.getElem_toArray, List.getElem_cons_zero, List.getElem_cons_succ, List.setIfInBounds_toArray, List.set_cons_zero, List.set_cons_succ]
                refine wpAnyH_ready (rs := [15]) (by kernel_rfl) (by simp) ?_
                refine (AllReadyH.cons rfl (fun K hK => ?_) AllReadyH.nil)
                · refine step_call rfl 66 #[.agg #[.int .i64 ej.tg, .int .i64 ej.sk, .int .i64 ej.tr.num, .int .i64 ej.tr.x, .int .i64 ej.tr.y, .int .i64 ej.tr.co, .int .i64 ej.tr.sp, .int .i64 ej.tr.st, .int .i64 ej.tr.ag]] (by simp [go_sem]) (key_any _ ej) ?_
                  rintro e' w4 ⟨rfl, b4⟩
                  have HA4 := hide (HA3.out.below HG3.out b4)
                  have HG4 := hide (Nat.lt_of_lt_of_le HG3.out b4.size)
                  have HB4 := hide (lec HB3.out b4)
                  have zS4 := zz _ HA4.out HB4.out
                  clear b4
                  refine ⟨_, rfl, ?_⟩
                  refine hK.out _ _ ?_ (fun hHeld => ?_)
                  · (first | with_reducible exact zS | with_reducible exact zS3 | with_reducible exact zS4 | with_reducible exact zS5 | with_reducible exact zS6 | with_reducible exact zS7 | exact zS)
                  clear hK K
                  try simp only [Act.put, List.getElem_toArray, List.getElem_cons_zero, List.getElem_cons_succ, List.setIfInBounds_toArray, List.set_cons_zero, List.set_cons_succ]
                  refine wpAnyH_take (i := 16) (v := ?_) rfl (by kernel_rfl) (by kernel_rfl) (by kernel_rfl) (fun _ _ _ h => h) (Or.inl ⟨by rfl, ?_⟩) (by assumption) ?_
                  rotate_left
                  · (intro w hSw; (try dsimp only at hSw); ((have zq := eq135 w ei ej HOI.out HOJ.out)); go_simp; try (with_reducible rfl))
                  try simp only [Act.put, List.getElem_toArray, List.getElem_cons_zero, List.getElem_cons_succ, List.setIfInBounds_toArray, List.set_cons_zero, List.set_cons_succ]
                  refine wpAnyH_take (i := 17) (v := ?_) rfl (by kernel_rfl) (by kernel_rfl) (by kernel_rfl) (fun _ _ _ h => h) (Or.inl ⟨by rfl, ?_⟩) (by assumption) ?_
                  rotate_left
                  · (intro w hSw; (try dsimp only at hSw); go_simp; try (with_reducible rfl))
                  try simp only [Act.put, List.getElem_toArray, List.getElem_cons_zero, List.getElem_cons_succ, List.setIfInBounds_toArray, List.set_cons_zero, List.set_cons_succ]
                  refine wpAnyH_take (i := 18) (v := ?_) rfl (by kernel_rfl) (by kernel_rfl) (by kernel_rfl) (fun _ _ _ h => h) (Or.inl ⟨by rfl, ?_⟩) (by assumption) ?_
                  rotate_left
                  · (intro w hSw; (try dsimp only at hSw); go_simp; try (with_reducible rfl))
                  try simp only [Act.put, List.getElem_toArray, List.getElem_cons_zero, List.getElem_cons_succ, List.setIfInBounds_toArray, List.set_cons_zero, List.set_cons_succ]
                  refine wpAnyH_take (i := 19) (v := ?_) rfl (by kernel_rfl) (by kernel_rfl) (by kernel_rfl) (fun _ _ _ h => h) (Or.inl ⟨by rfl, ?_⟩) (by assumption) ?_
                  rotate_left
                  · (intro w hSw; (try dsimp only at hSw); go_simp; try (with_reducible rfl))
                  try simp only [Act.put, List.getElem_toArray, List.getElem_cons_zero, List.getElem_cons_succ, List.setIfInBounds_toArray, List.set_cons_zero, List.set_cons_succ]
                  refine wpAnyH_take (i := 20) (v := ?_) rfl (by kernel_rfl) (by kernel_rfl) (by kernel_rfl) (fun _ _ _ h => h) (Or.inl ⟨by rfl, ?_⟩) (by assumption) ?_
                  rotate_left
                  · (intro w hSw; (try dsimp only at hSw); go_simp; try (with_reducible rfl))
                  try simp only [Act.put, List.getElem_toArray, List.getElem_cons_zero, List.getElem_cons_succ, List.setIfInBounds_toArray, List.set_cons_zero, List.set_cons_succ]
                  refine wpAnyH_take (i := 21) (v := ?_) rfl (by kernel_rfl) (by kernel_rfl) (by kernel_rfl) (fun _ _ _ h => h) (Or.inl ⟨by rfl, ?_⟩) (by assumption) ?_
                  rotate_left
                  · (intro w hSw; (try dsimp only at hSw); ((obtain ⟨z0, z1, z2, z3, z4, z5, z6, z7, z8⟩ := hSw.2.2.2.2.ee)); go_simp; try (with_reducible rfl))
                  try simp only [Act.put, List.getElem_toArray, List.getElem_cons_zero, List.getElem_cons_succ, List.setIfInBounds_toArray, List.set_cons_zero, List.set_cons_succ]
                  refine wpAnyH_take (i := 23) (v := ?_) rfl (by kernel_rfl) (by kernel_rfl) (by kernel_rfl) (fun _ _ _ h => h) (Or.inl ⟨by rfl, ?_⟩) (by assumption) ?_
                  rotate_left
                  · (intro w hSw; (try dsimp only at hSw); go_simp; try (with_reducible rfl))
                  try simp only [Act.put, List.getElem_toArray, List.getElem_cons_zero, List.getElem_cons_succ, List.setIfInBounds_toArray, List.set_cons_zero, List.set_cons_succ]
                  refine wpAnyH_take (i := 24) (v := ?_) rfl (by kernel_rfl) (by kernel_rfl) (by kernel_rfl) (fun _ _ _ h => h) (Or.inl ⟨by rfl, ?_⟩) (by assumption) ?_
                  rotate_left
                  · (intro w hSw; (try dsimp only at hSw); go_simp; try (with_reducible rfl))
                  try simp only [Act.put, List.getElem_toArray, List.getElem_cons_zero, List.getElem_cons_succ, List.setIfInBounds_toArray, List.set_cons_zero, List.set_cons_succ]
                  refine wpAnyH_take (i := 25) (v := ?_) rfl (by kernel_rfl) (by kernel_rfl) (by kernel_rfl) (fun _ _ _ h => h) (Or.inl ⟨by rfl, ?_⟩) (by assumption) ?_
                  rotate_left
                  · (intro w hSw; (try dsimp only at hSw); go_simp; try (with_reducible rfl))
                  try simp only [Act.put, List.getElem_toArray, List.getElem_cons_zero, List.getElem_cons_succ, List.setIfInBounds_toArray, List.set_cons_zero, List.set_cons_succ]
                  refine wpAnyH_take (i := 26) (v := ?_) rfl (by kernel_rfl) (by kernel_rfl) (by kernel_rfl) (fun _ _ _ h => h) (Or.inl ⟨by rfl, ?_⟩) (by assumption) ?_
                  rotate_left
                  · (intro w hSw; (try dsimp only at hSw); ((obtain ⟨z0, z1, z2, z3, z4, z5, z6, z7, z8⟩ := hSw.2.2.2.1.ee)); go_simp; try (with_reducible rfl))
                  try simp only [Act.put, List.getElem_toArray, List.getElem_cons_zero, List.getElem_cons_succ, List.setIfInBounds_toArray, List.set_cons_zero, List.set_cons_succ]
                  refine wpAnyH_ready (rs := [22]) (by kernel_rfl) (by simp) ?_
                  refine (AllReadyH.cons rfl (fun K hK => ?_) AllReadyH.nil)
                  · refine step_call_g (by rfl) 66 #[.agg #[.int .i64 aj.tg, .int .i64 aj.sk, .int .i64 aj.tr.num, .int .i64 aj.tr.x, .int .i64 aj.tr.y, .int .i64 aj.tr.co, .int .i64 aj.tr.sp, .int .i64 aj.tr.st, .int .i64 aj.tr.ag]] (by simp [go_sem]) (key_any _ aj) ?_
                    rintro e' w5 ⟨rfl, b5⟩
                    have HA5 := hide (HA4.out.below HG4.out b5)
                    have HG5 := hide (Nat.lt_of_lt_of_le HG4.out b5.size)
                    have HB5 := hide (lec HB4.out b5)
                    have zS5 := zz _ HA5.out HB5.out
                    clear b5
                    refine ⟨_, rfl, ?_⟩
                    refine hK.out _ _ ?_ (fun hHeld => ?_)
                    · (first | with_reducible exact zS | with_reducible exact zS3 | with_reducible exact zS4 | with_reducible exact zS5 | with_reducible exact zS6 | with_reducible exact zS7 | exact zS)
                    clear hK K
                    try simp only [Act.put, List.getElem_toArray, List.getElem_cons_zero, List.getElem_cons_succ, List.setIfInBounds_toArray, List.set_cons_zero, List.set_cons_succ]
                    refine wpAnyH_ready (rs := [27]) (by kernel_rfl) (by simp) ?_
                    refine (AllReadyH.cons rfl (fun K hK => ?_) AllReadyH.nil)
                    · refine step_call_g (by rfl) 66 #[.agg #[.int .i64 ai.tg, .int .i64 ai.sk, .int .i64 ai.tr.num, .int .i64 ai.tr.x, .int .i64 ai.tr.y, .int .i64 ai.tr.co, .int .i64 ai.tr.sp, .int .i64 ai.tr.st, .int .i64 ai.tr.ag]] (by simp [go_sem]) (key_any _ ai) ?_
                      rintro e' w6 ⟨rfl, b6⟩
                      have HA6 := hide (HA5.out.below HG5.out b6)
                      have HG6 := hide (Nat.lt_of_lt_of_le HG5.out b6.size)
                      have HB6 := hide (lec HB5.out b6)
                      have zS6 := zz _ HA6.out HB6.out
                      clear b6
                      refine ⟨_, rfl, ?_⟩
                      refine hK.out _ _ ?_ (fun hHeld => ?_)
                      · (first | with_reducible exact zS | with_reducible exact zS3 | with_reducible exact zS4 | with_reducible exact zS5 | with_reducible exact zS6 | with_reducible exact zS7 | exact zS)
                      clear hK K
                      try simp only [Act.put, List.getElem_toArray, List.getElem_cons_zero, List.getElem_cons_succ, List.setIfInBounds_toArray, List.set_cons_zero, List.set_cons_succ]
                      refine wpAnyH_ready (rs := [28]) (by kernel_rfl) (by simp) ?_
                      refine (AllReadyH.cons rfl (fun K hK => ?_) AllReadyH.nil)
                      · refine step_call_g (by rfl) 67 #[.agg #[.int .i64 aj.tr.ag, .int .i64 aj.tr.x, .int .i64 aj.tr.y, .int .i64 aj.tr.co, .int .i64 aj.tr.sp, .int .i64 aj.tr.st, .int .i64 aj.sk], .agg #[.int .i64 ai.tr.ag, .int .i64 ai.tr.x, .int .i64 ai.tr.y, .int .i64 ai.tr.co, .int .i64 ai.tr.sp, .int .i64 ai.tr.st, .int .i64 ai.sk]] (by simp [go_sem]) (less_any _ aj ai HAJ.out HAI.out) ?_
                        rintro e' w7 ⟨rfl, b7⟩
                        have HA7 := hide (HA6.out.below HG6.out b7)
                        have HG7 := hide (Nat.lt_of_lt_of_le HG6.out b7.size)
                        have HB7 := hide (lec HB6.out b7)
                        have zS7 := zz _ HA7.out HB7.out
                        clear b7
                        refine ⟨_, rfl, ?_⟩
                        refine hK.out _ _ ?_ (fun hHeld => ?_)
                        · (first | with_reducible exact zS | with_reducible exact zS3 | with_reducible exact zS4 | with_reducible exact zS5 | with_reducible exact zS6 | with_reducible exact zS7 | exact zS)
                        clear hK K
                        try simp only [Act.put, List.getElem_toArray, List.getElem_cons_zero, List.getElem_cons_succ, List.setIfInBounds_toArray, List.set_cons_zero, List.set_cons_succ]
                        refine wpAnyH_take (i := 29) (v := ?_) rfl (by kernel_rfl) (by kernel_rfl) (by kernel_rfl) (fun _ _ _ h => h) (Or.inl ⟨by rfl, ?_⟩) (by assumption) ?_
                        rotate_left
                        · (intro w hSw; (try dsimp only at hSw); go_simp; try (with_reducible rfl))
                        try simp only [Act.put, List.getElem_toArray, List.getElem_cons_zero, List.getElem_cons_succ, List.setIfInBounds_toArray, List.set_cons_zero, List.set_cons_succ]
                        refine wpAnyH_done (by kernel_rfl) ?_ _
                        clear zS zS3 zS4 zS5 zS6 zS7 zz
                        go_wp2
                        first | refine HJ3.out _ _ ?rel (by kernel_rfl) rfl ?measure | refine HJ2.out _ _ ?rel (by kernel_rfl) rfl ?measure
                        case rel => (try dsimp only [rdA, getL]); (exact ⟨j + 1, mm + 1, hide (by have := HJ.out; omega), by omega, by simp, HA7.out.congr (fun k _ => by rw [HRW.out]), HG7.out, HB7.out⟩)
                        case measure => (try dsimp only [rdA, getL]); (simp [intOf]; omega)
          · have hkb : decide (keyP ei = keyP ej) = false := by simpa using hkk
            rw [if_neg (fun z => hkk z.1)] at HRW
            clear hkk
            refine wp_region_held_drew (S := fun w' => w'.cell? ⟨mb, o, none⟩ = some (.slice (some ⟨ge, 0, none⟩) n c) ∧ RA w' ge (i * 9) (Ev ei) ∧ RA w' ge (j * 9) (Ev ej) ∧ RA w' ga (i * 9) (Ev ai) ∧ RA w' ga (j * 9) (Ev aj)) (by kernel_rfl) zS (fun hHeld => ?_)
            refine wpAnyH_take (i := 0) (v := ?_) rfl (by kernel_rfl) (by kernel_rfl) (by kernel_rfl) (fun _ _ _ h => h) (Or.inl ⟨by rfl, ?_⟩) (by assumption) ?_
            rotate_left
            · (intro w hSw; (try dsimp only at hSw); go_simp; try (with_reducible rfl))
            try simp only [Act.put, List.getElem_toArray, List.getElem_cons_zero, List.getElem_cons_succ, List.setIfInBounds_toArray, List.set_cons_zero, List.set_cons_succ]
            refine wpAnyH_take (i := 1) (v := ?_) rfl (by kernel_rfl) (by kernel_rfl) (by kernel_rfl) (fun _ _ _ h => h) (Or.inl ⟨by rfl, ?_⟩) (by assumption) ?_
            rotate_left
            · (intro w hSw; (try dsimp only at hSw); go_simp; try (with_reducible rfl))
            try simp only [Act.put, List.getElem_toArray, List.getElem_cons_zero, List.getElem_cons_succ, List.setIfInBounds_toArray, List.set_cons_zero, List.set_cons_succ]
            refine wpAnyH_take (i := 2) (v := ?_) rfl (by kernel_rfl) (by kernel_rfl) (by kernel_rfl) (fun _ _ _ h => h) (Or.inl ⟨by rfl, ?_⟩) (by assumption) ?_
            rotate_left
            · (intro w hSw; (try dsimp only at hSw); go_simp; try (with_reducible rfl))
            try simp only [Act.put, List.getElem_toArray, List.getElem_cons_zero, List.getElem_cons_succ, List.setIfInBounds_toArray, List.set_cons_zero, List.set_cons_succ]
            refine wpAnyH_take (i := 3) (v := ?_) rfl (by kernel_rfl) (by kernel_rfl) (by kernel_rfl) (fun _ _ _ h => h) (Or.inl ⟨by rfl, ?_⟩) (by assumption) ?_
            rotate_left
            · (intro w hSw; (try dsimp only at hSw); ((have z := hSw.1)); go_simp; try (with_reducible rfl))
            try simp only [Act.put, List.getElem_toArray, List.getElem_cons_zero, List.getElem_cons_succ, List.setIfInBounds_toArray, List.set_cons_zero, List.set_cons_succ]
            refine wpAnyH_take (i := 4) (v := ?_) rfl (by kernel_rfl) (by kernel_rfl) (by kernel_rfl) (fun _ _ _ h => h) (Or.inl ⟨by rfl, ?_⟩) (by assumption) ?_
            rotate_left
            · (intro w hSw; (try dsimp only at hSw); go_simp; try (with_reducible rfl))
            try simp only [Act.put, List.getElem_toArray, List.getElem_cons_zero, List.getElem_cons_succ, List.setIfInBounds_toArray, List.set_cons_zero, List.set_cons_succ]
            refine wpAnyH_take (i := 5) (v := ?_) rfl (by kernel_rfl) (by kernel_rfl) (by kernel_rfl) (fun _ _ _ h => h) (Or.inl ⟨by rfl, ?_⟩) (by assumption) ?_
            rotate_left
            · (intro w hSw; (try dsimp only at hSw); go_simp; try (with_reducible rfl))
            try simp only [Act.put, List.getElem_toArray, List.getElem_cons_zero, List.getElem_cons_succ, List.setIfInBounds_toArray, List.set_cons_zero, List.set_cons_succ]
            refine wpAnyH_take (i := 6) (v := ?_) rfl (by kernel_rfl) (by kernel_rfl) (by kernel_rfl) (fun _ _ _ h => h) (Or.inl ⟨by rfl, ?_⟩) (by assumption) ?_
            rotate_left
            · (intro w hSw; (try dsimp only at hSw); ((obtain ⟨z0, z1, z2, z3, z4, z5, z6, z7, z8⟩ := hSw.2.1.ee)); go_simp; try (with_reducible rfl))
            try simp only [Act.put, List.getElem_toArray, List.getElem_cons_zero, List.getElem_cons_succ, List.setIfInBounds_toArray, List.set_cons_zero, List.set_cons_succ]
            refine wpAnyH_take (i := 8) (v := ?_) rfl (by kernel_rfl) (by kernel_rfl) (by kernel_rfl) (fun _ _ _ h => h) (Or.inl ⟨by rfl, ?_⟩) (by assumption) ?_
            rotate_left
            · (intro w hSw; (try dsimp only at hSw); go_simp; try (with_reducible rfl))
            try simp only [Act.put, List.getElem_toArray, List.getElem_cons_zero, List.getElem_cons_succ, List.setIfInBounds_toArray, List.set_cons_zero, List.set_cons_succ]
            refine wpAnyH_take (i := 9) (v := ?_) rfl (by kernel_rfl) (by kernel_rfl) (by kernel_rfl) (fun _ _ _ h => h) (Or.inl ⟨by rfl, ?_⟩) (by assumption) ?_
            rotate_left
            · (intro w hSw; (try dsimp only at hSw); go_simp; try (with_reducible rfl))
            try simp only [Act.put, List.getElem_toArray, List.getElem_cons_zero, List.getElem_cons_succ, List.setIfInBounds_toArray, List.set_cons_zero, List.set_cons_succ]
            refine wpAnyH_take (i := 10) (v := ?_) rfl (by kernel_rfl) (by kernel_rfl) (by kernel_rfl) (fun _ _ _ h => h) (Or.inl ⟨by rfl, ?_⟩) (by assumption) ?_
            rotate_left
            · (intro w hSw; (try dsimp only at hSw); go_simp; try (with_reducible rfl))
            try simp only [Act.put, List.getElem_toArray, List.getElem_cons_zero, List.getElem_cons_succ, List.setIfInBounds_toArray, List.set_cons_zero, List.set_cons_succ]
            refine wpAnyH_take (i := 11) (v := ?_) rfl (by kernel_rfl) (by kernel_rfl) (by kernel_rfl) (fun _ _ _ h => h) (Or.inl ⟨by rfl, ?_⟩) (by assumption) ?_
            rotate_left
            · (intro w hSw; (try dsimp only at hSw); ((have z := hSw.1)); go_simp; try (with_reducible rfl))
            try simp only [Act.put, List.getElem_toArray, List.getElem_cons_zero, List.getElem_cons_succ, List.setIfInBounds_toArray, List.set_cons_zero, List.set_cons_succ]
            refine wpAnyH_take (i := 12) (v := ?_) rfl (by kernel_rfl) (by kernel_rfl) (by kernel_rfl) (fun _ _ _ h => h) (Or.inl ⟨by rfl, ?_⟩) (by assumption) ?_
            rotate_left
            · (intro w hSw; (try dsimp only at hSw); go_simp; try (with_reducible rfl))
            try simp only [Act.put, List.getElem_toArray, List.getElem_cons_zero, List.getElem_cons_succ, List.setIfInBounds_toArray, List.set_cons_zero, List.set_cons_succ]
            refine wpAnyH_take (i := 13) (v := ?_) rfl (by kernel_rfl) (by kernel_rfl) (by kernel_rfl) (fun _ _ _ h => h) (Or.inl ⟨by rfl, ?_⟩) (by assumption) ?_
            rotate_left
            · (intro w hSw; (try dsimp only at hSw); go_simp; try (with_reducible rfl))
            try simp only [Act.put, List.getElem_toArray, List.getElem_cons_zero, List.getElem_cons_succ, List.setIfInBounds_toArray, List.set_cons_zero, List.set_cons_succ]
            refine wpAnyH_take (i := 14) (v := ?_) rfl (by kernel_rfl) (by kernel_rfl) (by kernel_rfl) (fun _ _ _ h => h) (Or.inl ⟨by rfl, ?_⟩) (by assumption) ?_
            rotate_left
            · (intro w hSw; (try dsimp only at hSw); ((obtain ⟨z0, z1, z2, z3, z4, z5, z6, z7, z8⟩ := hSw.2.2.1.ee)); go_simp; try (with_reducible rfl))
            try simp only [Act.put, List.getElem_toArray, List.getElem_cons_zero, List.getElem_cons_succ, List.setIfInBounds_toArray, List.set_cons_zero, List.set_cons_succ]
            refine wpAnyH_ready (rs := [7]) (by kernel_rfl) (by simp) ?_
            refine (AllReadyH.cons rfl (fun K hK => ?_) AllReadyH.nil)
            · refine step_call rfl 66 #[.agg #[.int .i64 ei.tg, .int .i64 ei.sk, .int .i64 ei.tr.num, .int .i64 ei.tr.x, .int .i64 ei.tr.y, .int .i64 ei.tr.co, .int .i64 ei.tr.sp, .int .i64 ei.tr.st, .int .i64 ei.tr.ag]] (by simp [go_sem]) (key_any _ ei) ?_
              rintro e' w3 ⟨rfl, b3⟩
              replace b3 := of_drew b3
              have HA3 := hide (HA.out.below HG.out b3)
              have HG3 := hide (Nat.lt_of_lt_of_le HG.out b3.size)
              have HB3 := hide (lec HB.out b3)
              have zS3 := zz _ HA3.out HB3.out
              clear b3
              refine ⟨_, rfl, ?_⟩
              refine hK.out _ _ ?_ (fun hHeld => ?_)
              · (first | with_reducible exact zS | with_reducible exact zS3 | with_reducible exact zS4 | exact zS)
              clear hK K
              try simp only [Act.put, List.getElem_toArray, List.getElem_cons_zero, List.getElem_cons_succ, List.setIfInBounds_toArray, List.set_cons_zero, List.set_cons_succ]
              refine wpAnyH_ready (rs := [15]) (by kernel_rfl) (by simp) ?_
              refine (AllReadyH.cons rfl (fun K hK => ?_) AllReadyH.nil)
              · refine step_call rfl 66 #[.agg #[.int .i64 ej.tg, .int .i64 ej.sk, .int .i64 ej.tr.num, .int .i64 ej.tr.x, .int .i64 ej.tr.y, .int .i64 ej.tr.co, .int .i64 ej.tr.sp, .int .i64 ej.tr.st, .int .i64 ej.tr.ag]] (by simp [go_sem]) (key_any _ ej) ?_
                rintro e' w4 ⟨rfl, b4⟩
                have HA4 := hide (HA3.out.below HG3.out b4)
                have HG4 := hide (Nat.lt_of_lt_of_le HG3.out b4.size)
                have HB4 := hide (lec HB3.out b4)
                have zS4 := zz _ HA4.out HB4.out
                clear b4
                refine ⟨_, rfl, ?_⟩
                refine hK.out _ _ ?_ (fun hHeld => ?_)
                · (first | with_reducible exact zS | with_reducible exact zS3 | with_reducible exact zS4 | exact zS)
                clear hK K
                try simp only [Act.put, List.getElem_toArray, List.getElem_cons_zero, List.getElem_cons_succ, List.setIfInBounds_toArray, List.set_cons_zero, List.set_cons_succ]
                refine wpAnyH_take (i := 16) (v := ?_) rfl (by kernel_rfl) (by kernel_rfl) (by kernel_rfl) (fun _ _ _ h => h) (Or.inl ⟨by rfl, ?_⟩) (by assumption) ?_
                rotate_left
                · (intro w hSw; (try dsimp only at hSw); ((have zq := eq135 w ei ej HOI.out HOJ.out)); go_simp; try (with_reducible rfl))
                try simp only [Act.put, List.getElem_toArray, List.getElem_cons_zero, List.getElem_cons_succ, List.setIfInBounds_toArray, List.set_cons_zero, List.set_cons_succ]
                refine wpAnyH_take (i := 17) (v := ?_) rfl (by kernel_rfl) (by kernel_rfl) (by kernel_rfl) (fun _ _ _ h => h) (Or.inl ⟨by rfl, ?_⟩) (by assumption) ?_
                rotate_left
                · (intro w hSw; (try dsimp only at hSw); go_simp; try (with_reducible rfl))
                try simp only [Act.put, List.getElem_toArray, List.getElem_cons_zero, List.getElem_cons_succ, List.setIfInBounds_toArray, List.set_cons_zero, List.set_cons_succ]
                refine wpAnyH_take (i := 18) (v := undef) rfl (by kernel_rfl) (by kernel_rfl) (by kernel_rfl) (fun _ _ _ h => h) (Or.inr ⟨by rfl, rfl⟩) (by assumption) ?_
                try simp only [Act.put, List.getElem_toArray, List.getElem_cons_zero, List.getElem_cons_succ, List.setIfInBounds_toArray, List.set_cons_zero, List.set_cons_succ]
                refine wpAnyH_take (i := 19) (v := undef) rfl (by kernel_rfl) (by kernel_rfl) (by kernel_rfl) (fun _ _ _ h => h) (Or.inr ⟨by rfl, rfl⟩) (by assumption) ?_
                try simp only [Act.put, List.getElem_toArray, List.getElem_cons_zero, List.getElem_cons_succ, List.setIfInBounds_toArray, List.set_cons_zero, List.set_cons_succ]
                refine wpAnyH_take (i := 20) (v := undef) rfl (by kernel_rfl) (by kernel_rfl) (by kernel_rfl) (fun _ _ _ h => h) (Or.inr ⟨by rfl, rfl⟩) (by assumption) ?_
                try simp only [Act.put, List.getElem_toArray, List.getElem_cons_zero, List.getElem_cons_succ, List.setIfInBounds_toArray, List.set_cons_zero, List.set_cons_succ]
                refine wpAnyH_take (i := 21) (v := undef) rfl (by kernel_rfl) (by kernel_rfl) (by kernel_rfl) (fun _ _ _ h => h) (Or.inr ⟨by rfl, rfl⟩) (by assumption) ?_
                try simp only [Act.put, List.getElem_toArray, List.getElem_cons_zero, List.getElem_cons_succ, List.setIfInBounds_toArray, List.set_cons_zero, List.set_cons_succ]
                refine wpAnyH_take (i := 22) (v := undef) rfl (by kernel_rfl) (by kernel_rfl) (by kernel_rfl) (fun _ _ _ h => h) (Or.inr ⟨by rfl, rfl⟩) (by assumption) ?_
                try simp only [Act.put, List.getElem_toArray, List.getElem_cons_zero, List.getElem_cons_succ, List.setIfInBounds_toArray, List.set_cons_zero, List.set_cons_succ]
                refine wpAnyH_take (i := 23) (v := undef) rfl (by kernel_rfl) (by kernel_rfl) (by kernel_rfl) (fun _ _ _ h => h) (Or.inr ⟨by rfl, rfl⟩) (by assumption) ?_
                try simp only [Act.put, List.getElem_toArray, List.getElem_cons_zero, List.getElem_cons_succ, List.setIfInBounds_toArray, List.set_cons_zero, List.set_cons_succ]
                refine wpAnyH_take (i := 24) (v := undef) rfl (by kernel_rfl) (by kernel_rfl) (by kernel_rfl) (fun _ _ _ h => h) (Or.inr ⟨by rfl, rfl⟩) (by assumption) ?_
                try simp only [Act.put, List.getElem_toArray, List.getElem_cons_zero, List.getElem_cons_succ, List.setIfInBounds_toArray, List.set_cons_zero, List.set_cons_succ]
                refine wpAnyH_take (i := 25) (v := undef) rfl (by kernel_rfl) (by kernel_rfl) (by kernel_rfl) (fun _ _ _ h => h) (Or.inr ⟨by rfl, rfl⟩) (by assumption) ?_
                try simp only [Act.put, List.getElem_toArray, List.getElem_cons_zero, List.getElem_cons_succ, List.setIfInBounds_toArray, List.set_cons_zero, List.set_cons_succ]
                refine wpAnyH_take (i := 26) (v := undef) rfl (by kernel_rfl) (by kernel_rfl) (by kernel_rfl) (fun _ _ _ h => h) (Or.inr ⟨by rfl, rfl⟩) (by assumption) ?_
                try simp only [Act.put, List.getElem_toArray, List.getElem_cons_zero, List.getElem_cons_succ, List.setIfInBounds_toArray, List.set_cons_zero, List.set_cons_succ]
                refine wpAnyH_take (i := 27) (v := undef) rfl (by kernel_rfl) (by kernel_rfl) (by kernel_rfl) (fun _ _ _ h => h) (Or.inr ⟨by rfl, rfl⟩) (by assumption) ?_
                try simp only [Act.put, List.getElem_toArray, List.getElem_cons_zero, List.getElem_cons_succ, List.setIfInBounds_toArray, List.set_cons_zero, List.set_cons_succ]
                refine wpAnyH_take (i := 28) (v := undef) rfl (by kernel_rfl) (by kernel_rfl) (by kernel_rfl) (fun _ _ _ h => h) (Or.inr ⟨by rfl, rfl⟩) (by assumption) ?_
                try simp only [Act.put, List.getElem_toArray, List.getElem_cons_zero, List.getElem_cons_succ, List.setIfInBounds_toArray, List.set_cons_zero, List.set_cons_succ]
                refine wpAnyH_take (i := 29) (v := ?_) rfl (by kernel_rfl) (by kernel_rfl) (by kernel_rfl) (fun _ _ _ h => h) (Or.inl ⟨by rfl, ?_⟩) (by assumption) ?_
                rotate_left
                · (intro w hSw; (try dsimp only at hSw); go_simp; try (with_reducible rfl))
                try simp only [Act.put, List.getElem_toArray, List.getElem_cons_zero, List.getElem_cons_succ, List.setIfInBounds_toArray, List.set_cons_zero, List.set_cons_succ]
                refine wpAnyH_done (by kernel_rfl) ?_ _
                clear zS zS3 zS4 zz
                go_wp2
                first | refine HJ3.out _ _ ?rel (by kernel_rfl) rfl ?measure | refine HJ2.out _ _ ?rel (by kernel_rfl) rfl ?measure
                case rel => (try dsimp only [rdA, getL]); (exact ⟨j + 1, mm + 1, hide (by have := HJ.out; omega), by omega, by simp, HA4.out.congr (fun k _ => by rw [HRW.out]), HG4.out, HB4.out⟩)
                case measure => (try dsimp only [rdA, getL]); (simp [intOf]; omega)
        · have hjni : ¬ (j : Int) < (n : Int) := by omega
          obtain rfl : mm = n - 1 - i := by have := HJ.out; omega
          go_wp2
          first | refine HJ3.out _ _ ?rel (by kernel_rfl) rfl ?measure | refine HJ2.out _ _ ?rel (by kernel_rfl) rfl ?measure
          case rel => (try dsimp only [rdA, getL]); (exact ⟨i + 1, by omega, by simp, HA.out.congr (fun k _ => by rw [HPS.out]), HG.out, HB.out⟩)
          case measure => (try dsimp only [rdA, getL]); (simp [intOf]; omega)
    · have hini : ¬ (i : Int) < (n : Int) := by omega
      have hie : i = n := by omega
      rw [hie] at HA
      clear hie hin
      go_wp2
      refine HKK.out _ _ _ _ _ _ _ _ _ _ _ _ _ _ _ _ _ _ _ _ _ _ _ _ _ _ _ _ _ _ _ _ _ _ _ _ _ _ _ _ _ _ _ _ _ _ _ _ _ _ _ _ _ _ _ _ _ _ _ _ _ _ _ _ _ _ _ _ _ _ _ _ _ _ _ _ _ _ _ _ _ ?_
      exact ⟨HA.out, HG.out, HB.out⟩
end Go.Proofs.Qxb6500777a
