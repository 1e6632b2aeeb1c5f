import Derived.Test.Qxb6500777aMt0
namespace Go.Proofs.Qxb6500777a
open Go.RowKit

set_option linter.unusedSimpArgs false in
set_option linter.unusedVariables false in
set_option maxRecDepth 1000000 in
set_option maxHeartbeats 400000000 in
theorem mt4 (w : World) (m mb o p : Nat) (tm : Int) (X Y : Nat → Int) (W : Nat → Tgt) (da : Option Addr) (nd cd : Nat) (D : List Det) (B : Nat) (a : Option Addr) (n c : Nat) (E : List Slt) (nx : Int) (hld : nd ≤ 1000000) (hx : 0 ≤ nx ∧ nx + 112 ≤ 1000000000) (h64 : n ≤ 64) (HMI : Hid (MI E nx)) (HTC : Hid (TC w m p X Y W da D)) (HND : Hid (nd = D.length)) (HWO : Hid (∀ (t : Nat), t < 112 → TgtOk (W t))) (HTN : Hid (TN m p mb da)) (HMB : Hid (mb < w.heap.size)) (HLN : Hid (n = E.length)) (HOB : Hid (∀ (s : Slt), s ∈ E → SltOk (obsS (fuseP D tm) W X Y s))) (i0 : TypeInfo) (HI : Hid (Try.prog.info? 113 = some i0 ∧ i0.zero = some (Value.agg #[Value.int IntKind.i64 0, Value.int IntKind.i64 0, Value.int IntKind.i64 0, Value.int IntKind.i64 0, Value.int IntKind.i64 0, Value.int IntKind.i64 0, Value.int IntKind.i64 0, Value.int IntKind.i64 0, Value.int IntKind.i64 0]) ∧ i0.size = 9 ∧ i0.bytes = 72)) (w1 : World) (ga : Nat) (HGA : Hid (w.heap.size ≤ ga)) (u12 u13 u14 u41 u42 u43 u44 u45 u46 u47 u48 u49 u50 u51 u52 u53 u54 u55 u56 u57 u58 u59 u60 u61 u62 u63 u64 u65 u66 u67 u68 u69 u70 u71 u72 u73 u74 u75 u76 u77 u78 : Value) (u15 u16 u79 u80 u81 u82 u83 u84 u85 u86 u87 u88 u89 u90 u91 u92 u93 u94 u95 u96 u97 u98 u99 u100 u101 u102 u103 u104 u105 u106 u107 u108 u109 u110 u111 u112 u113 u114 u115 u116 u117 u118 u119 u120 u121 u122 u123 u124 u125 u126 u127 u128 u129 u130 u131 u132 u133 u134 u135 u136 u137 u138 u139 u140 u141 u142 u143 u144 u145 u146 u147 u148 u149 u150 u151 u152 u153 u154 u155 u156 : Value) (S : Nat → Slt) (HGM : Hid (ga ≠ mb)) (w12 wc : World) (u17 u160 u161 u162 u163 u164 u165 u166 u167 u168 u169 u170 u171 u172 u173 u174 u175 u176 u177 u178 u179 u180 u181 u182 u183 u184 : Value) (av : Option Addr) (cv : Nat) (wr : World) (V0 : List Slt) (HVO : Hid (∀ (s : Slt), s ∈ V0 → SltOk s)) (HMT : Hid (∀ (E' : List Slt) (nx' : Int), MAdm (frM (fuseP D tm) W V0 112) V0 nx E' nx' → MTick (fuseP D tm) W X Y E nx E' nx')) (HFO : Hid (∀ (t : Nat), t < 112 → SltOk { used := true, tg := ↑t, sk := 0, tr := trk0 })) (nV : Nat) (hVl : nV ≤ n) (HNV : Hid (V0.length = nV)) (wf : World) (HF : Hid (Fr mb o 2 w wf)) (HTF : Hid (TC wf m p X Y W da D)) (HVr : Hid (VA wf mb o w.heap.size av nV cv V0 nx)) (HWF : Hid (w.heap.size ≤ wf.heap.size)) (K' : Act → World → Prop) (QQ : Ending → World → Prop)
    (hK : ∀ (u18 u19 u20 u21 u22 u185 u186 u187 u188 u189 u190 u191 u192 u193 u194 u195 u196 u197 u198 u199 u200 u201 u202 u203 u204 u205 u206 u207 u208 u209 u210 u211 u212 u213 u214 u215 u216 u217 u218 u219 u220 u221 u222 u223 u224 u225 u226 u227 u228 u229 u230 : Value) (w' : World), (∃ af cf, u18 = Value.slice af (frM (fuseP D tm) W V0 112).length cf ∧ ERow w' wf.heap.size (Value.slice af (frM (fuseP D tm) W V0 112).length cf) (frM (fuseP D tm) W V0 112) ∧ Below wf.heap.size wf w') → K' ⟨#[Value.pointer (some ⟨m, 0, none⟩), Value.pointer (some ⟨mb, o, none⟩), Value.int IntKind.i64 tm, Value.slice da nd cd, Value.pointer (some ⟨p, 0, none⟩), undef, undef, undef, undef, undef, Value.int IntKind.i64 ((n : Nat) : Int), Value.slice (some ⟨ga, 0, none⟩) n n, u12, u13, u14, u15, u16, u17, u18, u19, u20, u21, u22, undef, undef, undef, undef, undef, undef, undef, undef, undef, undef, undef, Value.pointer (some ⟨mb, o, none⟩), Value.pointer (some ⟨mb, o, none⟩), Value.pointer (some ⟨mb, o, none⟩), Value.slice a n c, Value.int IntKind.i64 ((n : Nat) : Int), Value.int IntKind.i64 ((n : Nat) : Int), Value.slice (some ⟨ga, 0, none⟩) n n, u41, u42, u43, u44, u45, u46, u47, u48, u49, u50, u51, u52, u53, u54, u55, u56, u57, u58, u59, u60, u61, u62, u63, u64, u65, u66, u67, u68, u69, u70, u71, u72, u73, u74, u75, u76, u77, u78, u79, u80, u81, u82, u83, u84, u85, u86, u87, u88, u89, u90, u91, u92, u93, u94, u95, u96, u97, u98, u99, u100, u101, u102, u103, u104, u105, u106, u107, u108, u109, u110, u111, u112, u113, u114, u115, u116, u117, u118, u119, u120, u121, u122, u123, u124, u125, u126, u127, u128, u129, u130, u131, u132, u133, u134, u135, u136, u137, u138, u139, u140, u141, u142, u143, u144, u145, u146, u147, u148, u149, u150, u151, u152, u153, u154, u155, u156, Value.pointer (some ⟨mb, o, none⟩), Value.pointer (some ⟨mb, o, none⟩), Value.pointer (some ⟨mb, o, none⟩), u160, u161, u162, u163, u164, u165, u166, u167, u168, u169, u170, u171, u172, u173, u174, u175, u176, u177, u178, u179, u180, u181, u182, u183, u184, u185, u186, u187, u188, u189, u190, u191, u192, u193, u194, u195, u196, u197, u198, u199, u200, u201, u202, u203, u204, u205, u206, u207, u208, u209, u210, u211, u212, u213, u214, u215, u216, u217, u218, u219, u220, u221, u222, u223, u224, u225, u226, u227, u228, u229, u230, undef, undef, undef, undef, undef, undef, undef, undef, undef, undef, undef, undef, undef, undef, undef, undef, undef, undef, undef, undef, undef, undef, undef, undef, undef, undef, undef, undef, undef, undef, undef, undef, undef, undef, undef, undef, undef, undef, undef, undef, undef, undef, undef, undef, undef, undef, undef, undef, undef, undef, undef, undef, undef, undef, undef, undef, undef, undef, undef, undef, undef, undef, undef, undef, undef, undef, undef, undef, undef, undef, undef, undef, undef, undef, undef, undef, undef, undef, undef, undef, undef, undef, undef, undef, undef, undef, undef, undef, undef, undef, undef, undef, undef, undef, undef, undef, undef, undef, undef, undef, undef, undef, undef, undef, undef, undef, undef, undef, undef, undef, undef, undef, undef, undef, undef, undef, undef, undef, undef, undef, undef, undef, undef, undef, undef, undef, undef, undef, undef, undef, undef, undef, undef, undef, undef, undef, undef, undef, undef, undef, undef, undef, undef, undef, undef, undef, undef, undef, undef, undef, undef, undef, undef, undef, undef, undef, undef, undef, undef, undef, undef, undef, undef, undef, undef, undef, undef, undef], []⟩ w') :
    Code.wp Try.prog (tblk 8) (Exit.then K' (bodyPost Try.prog Try.f44 QQ)) ⟨#[Value.pointer (some ⟨m, 0, none⟩), Value.pointer (some ⟨mb, o, none⟩), Value.int IntKind.i64 tm, Value.slice da nd cd, Value.pointer (some ⟨p, 0, none⟩), undef, undef, undef, undef, undef, Value.int IntKind.i64 ((n : Nat) : Int), Value.slice (some ⟨ga, 0, none⟩) n n, u12, u13, u14, u15, u16, u17, Value.slice none 0 0, Value.int IntKind.i64 0, undef, undef, undef, undef, undef, undef, undef, undef, undef, undef, undef, undef, undef, undef, Value.pointer (some ⟨mb, o, none⟩), Value.pointer (some ⟨mb, o, none⟩), Value.pointer (some ⟨mb, o, none⟩), Value.slice a n c, Value.int IntKind.i64 ((n : Nat) : Int), Value.int IntKind.i64 ((n : Nat) : Int), Value.slice (some ⟨ga, 0, none⟩) n n, u41, u42, u43, u44, u45, u46, u47, u48, u49, u50, u51, u52, u53, u54, u55, u56, u57, u58, u59, u60, u61, u62, u63, u64, u65, u66, u67, u68, u69, u70, u71, u72, u73, u74, u75, u76, u77, u78, u79, u80, u81, u82, u83, u84, u85, u86, u87, u88, u89, u90, u91, u92, u93, u94, u95, u96, u97, u98, u99, u100, u101, u102, u103, u104, u105, u106, u107, u108, u109, u110, u111, u112, u113, u114, u115, u116, u117, u118, u119, u120, u121, u122, u123, u124, u125, u126, u127, u128, u129, u130, u131, u132, u133, u134, u135, u136, u137, u138, u139, u140, u141, u142, u143, u144, u145, u146, u147, u148, u149, u150, u151, u152, u153, u154, u155, u156, Value.pointer (some ⟨mb, o, none⟩), Value.pointer (some ⟨mb, o, none⟩), Value.pointer (some ⟨mb, o, none⟩), u160, u161, u162, u163, u164, u165, u166, u167, u168, u169, u170, u171, u172, u173, u174, u175, u176, u177, u178, u179, u180, u181, u182, u183, u184, undef, undef, undef, undef, undef, undef, undef, undef, undef, undef, undef, undef, undef, undef, undef, undef, undef, undef, undef, undef, undef, undef, undef, undef, undef, undef, undef, undef, undef, undef, undef, undef, undef, undef, undef, undef, undef, undef, undef, undef, undef, undef, undef, undef, undef, undef, undef, undef, undef, undef, undef, undef, undef, undef, undef, undef, undef, undef, undef, undef, undef, undef, undef, undef, undef, undef, undef, undef, undef, undef, undef, undef, undef, undef, undef, undef, undef, undef, undef, undef, undef, undef, undef, undef, undef, undef, undef, undef, undef, undef, undef, undef, undef, undef, undef, undef, undef, undef, undef, undef, undef, undef, undef, undef, undef, undef, undef, undef, undef, undef, undef, undef, undef, undef, undef, undef, undef, undef, undef, undef, undef, undef, undef, undef, undef, undef, undef, undef, undef, undef, undef, undef, undef, undef, undef, undef, undef, undef, undef, undef, undef, undef, undef, undef, undef, undef, undef, undef, undef, undef, undef, undef, undef, undef, undef, undef, undef, undef, undef, undef, undef, undef, undef, undef, undef, undef, undef, undef, undef, undef, undef, undef, undef, undef, undef, undef, undef, undef, undef, undef, undef, undef, undef, undef, undef, undef, undef, undef, undef, undef, undef, undef, undef, undef, undef, undef, undef, undef, undef, undef, undef, undef, undef, undef, undef, undef, undef, undef, undef, undef, undef, undef, undef, undef], []⟩ wf := by
  have HKK := hide hK
  clear hK
  conv => arg 2; whnf
  go_wp2
  refine wp_loop_mix [none, none, none, none, none, none, none, none, none, none, none, none, none, none, none, none, none, none, some 18, some 19, some 20, some 21, some 22, none, none, none, none, none, none, none, none, none, none, none, none, none, none, none, none, none, none, none, none, none, none, none, none, none, none, none, none, none, none, none, none, none, none, none, none, none, none, none, none, none, none, none, none, none, none, none, none, none, none, none, none, none, none, none, none, none, none, none, none, none, none, none, none, none, none, none, none, none, none, none, none, none, none, none, none, none, none, none, none, none, none, none, none, none, none, none, none, none, none, none, none, none, none, none, none, none, none, none, none, none, none, none, none, none, none, none, none, none, none, none, none, none, none, none, none, none, none, none, none, none, none, none, none, none, none, none, none, none, none, none, none, none, none, none, none, none, none, none, none, none, none, none, none, none, none, none, none, none, none, none, none, none, none, none, none, none, none, none, none, none, none, some 185, some 186, some 187, some 188, some 189, some 190, some 191, some 192, some 193, some 194, some 195, some 196, some 197, some 198, some 199, some 200, some 201, some 202, some 203, some 204, some 205, some 206, some 207, some 208, some 209, some 210, some 211, some 212, some 213, some 214, some 215, some 216, some 217, some 218, some 219, some 220, some 221, some 222, some 223, some 224, some 225, some 226, some 227, some 228, some 229, some 230, none, none, none, none, none, none, none, none, none, none, none, none, none, none, none, none, none, none, none, none, none, none, none, none, none, none, none, none, none, none, none, none, none, none, none, none, none, none, none, none, none, none, none, none, none, none, none, none, none, none, none, none, none, none, none, none, none, none, none, none, none, none, none, none, none, none, none, none, none, none, none, none, none, none, none, none, none, none, none, none, none, none, none, none, none, none, none, none, none, none, none, none, none, none, none, none, none, none, none, none, none, none, none, none, none, none, none, none, none, none, none, none, none, none, none, none, none, none, none, none, none, none, none, none, none, none, none, none, none, none, none, none, none, none, none, none, none, none, none, none, none, none, none, none, none, none, none, none, none, none, none, none, none, none, none, none, none, none, none, none, none, none, none, none, none, none, none, none] (by kernel_rfl) (fun us wy => (fun s18 s19 _ _ _ wy => ∃ (t : Nat) (af : Option Addr) (cf : Nat), t ≤ 112 ∧ s19 = .int .i64 t ∧ s18 = .slice af (frM (fuseP D tm) W V0 t).length cf ∧ ERow wy wf.heap.size (.slice af (frM (fuseP D tm) W V0 t).length cf) (frM (fuseP D tm) W V0 t) ∧ Below wf.heap.size wf wy) (us 18) (us 19) (us 20) (us 21) (us 22) wy) (fun us wy => (fun _ s19 _ _ _ _ => 112 - (intOf s19).toNat) (us 18) (us 19) (us 20) (us 21) (us 22) wy) ?atStart ?round
  case atStart => (dsimp only [getL]; exact ⟨0, none, 0, by omega, rfl, rfl, World.ownsRow_nil _ _ _ _, Below.refl _ _⟩)
  case round =>
    intro us wr hrel J5 hJ5
    dsimp only at hrel hJ5
    dsimp only [mixF]
    generalize us 18 = s18 at hrel hJ5 ⊢
    generalize us 19 = s19 at hrel hJ5 ⊢
    have HJ5 := hide hJ5
    clear hJ5
    obtain ⟨t, af, cf, ht, rfl, rfl, hr, hb⟩ := hrel
    have HR := hide hr
    have HE := hide hb
    clear hr hb
    by_cases ht112 : t < 112
    · have ht112i : (t : Int) < 112 := by omega
      have ht0 : decide ((t : Int) < 0) = false := by simp
      have HX := hide (show frM (fuseP D tm) W V0 (t + 1) = if 0 < fuseP D tm t ∧ ∀ s ∈ V0, s.tg ≠ (t : Int) then frM (fuseP D tm) W V0 t ++ [nwS (newC (fuseP D tm) W t) 0] else frM (fuseP D tm) W V0 t from rfl)
      have hLl := frM_len (best := (fuseP D tm)) (W := W) (V := V0) t
      obtain ⟨L, hL⟩ : ∃ L, frM (fuseP D tm) W V0 t = L := ⟨_, rfl⟩
      rw [hL] at HX hLl HR ⊢
      clear hL
      go_wp2_with fail
      refine (fused_any _ da nd cd D (HTF.out.below HE.out).dd HND.out hld tm t ht112).mono ?_
      rintro e' w3 ⟨rfl, rfl⟩
      have cd' := fun w => hide (detected_any w ⟨true, t, 0, trk0⟩ (HFO.out t ht112) (W t) (HWO.out t ht112) (fuseP D tm t))
      have hgr := fuse_rng D tm t
      have HNR := hide (show 1 ≤ fuseP D tm t → refreshP ⟨true, t, 0, trk0⟩ (W t) (fuseP D tm t) = nwS (newC (fuseP D tm) W t) 0 from fun h => nw_refresh (best := (fuseP D tm)) h)
      obtain ⟨g, hg⟩ : ∃ g, fuseP D tm t = g := ⟨_, rfl⟩
      rw [hg] at HX cd' hgr HNR ⊢
      clear hg
      go_wp2
      refine wp_loop_mix [none, none, none, none, none, none, none, none, none, none, none, none, none, none, none, none, none, none, none, none, none, some 21, some 22, none, none, none, none, none, none, none, none, none, none, none, none, none, none, none, none, none, none, none, none, none, none, none, none, none, none, none, none, none, none, none, none, none, none, none, none, none, none, none, none, none, none, none, none, none, none, none, none, none, none, none, none, none, none, none, none, none, none, none, none, none, none, none, none, none, none, none, none, none, none, none, none, none, none, none, none, none, none, none, none, none, none, none, none, none, none, none, none, none, none, none, none, none, none, none, none, none, none, none, none, none, none, none, none, none, none, none, none, none, none, none, none, none, none, none, none, none, none, none, none, none, none, none, none, none, none, none, none, none, none, none, none, none, none, none, none, none, none, none, none, none, none, none, none, none, none, none, none, none, none, none, none, none, none, none, none, none, none, none, none, none, none, none, none, none, none, none, none, none, none, some 193, some 194, some 195, some 196, some 197, some 198, some 199, some 200, some 201, some 202, some 203, some 204, some 205, some 206, some 207, some 208, some 209, some 210, some 211, none, none, none, none, none, none, none, none, none, none, none, none, none, none, none, none, none, none, none, none, none, none, none, none, none, none, none, none, none, none, none, none, none, none, none, none, none, none, none, none, none, none, none, none, none, none, none, none, none, none, none, none, none, none, none, none, none, none, none, none, none, none, none, none, none, none, none, none, none, none, none, none, none, none, none, none, none, none, none, none, none, none, none, none, none, none, none, none, none, none, none, none, none, none, none, none, none, none, none, none, none, none, none, none, none, none, none, none, none, none, none, none, none, none, none, none, none, none, none, none, none, none, none, none, none, none, none, none, none, none, none, none, none, none, none, none, none, none, none, none, none, none, none, none, none, none, none, none, none, none, none, none, none, none, none, none, none, none, none, none, none, none, none, none, none, none, none, none, none, none, none, none, none, none, none, none, none, none, none, none, none, none, none, none, none, none, none] (by kernel_rfl) (fun us wy => (fun s21 s22 wy => ∃ k : Nat, k ≤ nV ∧ s22 = .int .i64 k ∧ s21 = .bool ((V0.take k).any (fun s => decide (s.tg = (t : Int)))) ∧ wy = w3) (us 21) (us 22) wy) (fun us wy => (fun _ s22 _ => nV - (intOf s22).toNat) (us 21) (us 22) wy) ?atStart ?round
      case atStart => (dsimp only [getL]; exact ⟨0, by omega, rfl, rfl, rfl⟩)
      case round =>
        intro us wr hrel J6 hJ6
        dsimp only at hrel hJ6
        dsimp only [mixF]
        generalize us 21 = s21 at hrel hJ6 ⊢
        generalize us 22 = s22 at hrel hJ6 ⊢
        have HJ6 := hide hJ6
        clear hJ6
        obtain ⟨k, hk, rfl, rfl, hw⟩ := hrel
        subst hw
        have HVy := hide (HVr.out.below HE.out)
        have c0 := HVy.out.c0
        by_cases hkn : k < nV
        · have hkni : (k : Int) < (nV : Int) := by omega
          have hk0 : decide ((k : Int) < 0) = false := by simp
          obtain ⟨v, hv⟩ : ∃ v, V0[k]? = some v := ⟨_, List.getElem?_eq_getElem (by have := HNV.out; omega)⟩
          have HAN := hide (show (V0.take (k + 1)).any (fun s => decide (s.tg = (t : Int))) = ((V0.take k).any (fun s => decide (s.tg = (t : Int))) || decide (v.tg = (t : Int))) by rw [take_succ hv, List.any_append]; simp)
          obtain ⟨gv, ev, hrv⟩ := HVy.out.row.get HVy.out.len hv
          have v0 := hrv.ee.1
          rw [ev] at c0
          clear hv hrv
          obtain ⟨bb, hbb⟩ : ∃ b, (V0.take k).any (fun s => decide (s.tg = (t : Int))) = b := ⟨_, rfl⟩
          rw [hbb] at HAN ⊢
          clear hbb
          by_cases hvt : v.tg = (t : Int)
          · have hvb : (v.tg == (t : Int)) = true := by simpa using hvt
            have HAN1 := hide (show (V0.take (k + 1)).any (fun s => decide (s.tg = (t : Int))) = true by rw [HAN.out, decide_eq_true hvt, Bool.or_true])
            clear hvt HAN
            go_wp2
            first | refine HJ6.out _ _ ?rel (by kernel_rfl) rfl ?measure | refine HJ5.out _ _ ?rel (by kernel_rfl) rfl ?measure
            case rel => (try dsimp only [rdA, getL]); (exact ⟨k + 1, by omega, by simp, by rw [HAN1.out], by simp⟩)
            case measure => (try dsimp only [rdA, getL]); (simp [intOf]; omega)
          · have hvb : (v.tg == (t : Int)) = false := by simpa using hvt
            have HAN1 := hide (show (V0.take (k + 1)).any (fun s => decide (s.tg = (t : Int))) = bb by rw [HAN.out, decide_eq_false hvt, Bool.or_false])
            clear hvt HAN
            go_wp2
            first | refine HJ6.out _ _ ?rel (by kernel_rfl) rfl ?measure | refine HJ5.out _ _ ?rel (by kernel_rfl) rfl ?measure
            case rel => (try dsimp only [rdA, getL]); (exact ⟨k + 1, by omega, by simp, by rw [HAN1.out], by simp⟩)
            case measure => (try dsimp only [rdA, getL]); (simp [intOf]; omega)
        · have hkni : ¬ (k : Int) < (nV : Int) := by omega
          have HAL := hide (show ((V0.take k).any (fun s => decide (s.tg = (t : Int))) = true ↔ ¬ ∀ s ∈ V0, s.tg ≠ (t : Int)) by
            rw [List.take_of_length_le (by have := HNV.out; omega), List.any_eq_true]
            constructor
            · rintro ⟨s, hs, e⟩ z
              exact z s hs (by simpa using e)
            · intro z
              exact Classical.byContradiction fun y => z fun s hs e => y ⟨s, hs, by simpa using e⟩)
          obtain ⟨bb, hbb⟩ : ∃ b, (V0.take k).any (fun s => decide (s.tg = (t : Int))) = b := ⟨_, rfl⟩
          rw [hbb] at HAL ⊢
          clear hbb
          by_cases hg0 : 0 < g
          · have hgd : decide (0 < g) = true := by simpa using hg0
            cases bb
            · obtain ⟨s', hs'⟩ : ∃ s, nwS (newC (fuseP D tm) W t) 0 = s := ⟨_, rfl⟩
              have HX1 := hide (show frM (fuseP D tm) W V0 (t + 1) = L ++ [s'] by rw [HX.out, if_pos ⟨hg0, Classical.byContradiction fun z => by have := HAL.out.2 z; cases this⟩, hs'])
              rw [HNR.out (by omega), hs'] at cd'
              clear hs' HX HAL
              have a0 := (HTF.out.below HE.out).wa t ht112 0 _ rfl
              have a1 := (HTF.out.below HE.out).wa t ht112 1 _ rfl
              have a2 := (HTF.out.below HE.out).wa t ht112 2 _ rfl
              have a3 := (HTF.out.below HE.out).wa t ht112 3 _ rfl
              rw [Nat.add_zero] at a0
              go_wp2_with fail
              refine (cd' _).out.mono ?_
              rintro e' w4 ⟨rfl, b4⟩
              have HR4 := hide (HR.out.below b4)
              have HE4 := hide (lec HE.out b4)
              have HEA := hide (lec HE4.out (be1 w4 (.cells #[.int .i64 s'.tg, .int .i64 s'.sk, .int .i64 s'.tr.num, .int .i64 s'.tr.x, .int .i64 s'.tr.y, .int .i64 s'.tr.co, .int .i64 s'.tr.sp, .int .i64 s'.tr.st, .int .i64 s'.tr.ag] 113)))
              have HSZ := hide HEA.out.size
              clear b4 a0 a1 a2 a3 cd' HNR c0
              have HR3 := hide (HR4.out.below (be1 w4 (.cells #[.int .i64 s'.tg, .int .i64 s'.sk, .int .i64 s'.tr.num, .int .i64 s'.tr.x, .int .i64 s'.tr.y, .int .i64 s'.tr.co, .int .i64 s'.tr.sp, .int .i64 s'.tr.st, .int .i64 s'.tr.ag] 113)))
              have HNC := hide (show ∀ (j : Nat) (u : Value), (Ev s')[j]? = some u → (w4.alloc (.cells #[.int .i64 s'.tg, .int .i64 s'.sk, .int .i64 s'.tr.num, .int .i64 s'.tr.x, .int .i64 s'.tr.y, .int .i64 s'.tr.co, .int .i64 s'.tr.sp, .int .i64 s'.tr.st, .int .i64 s'.tr.ag] 113)).cell? ((⟨w4.heap.size, 0, none⟩ : Addr).add j) = some u from fun j u hj => new_cells _ (Ev s') 113 j u hj)
              have HVV := hide (Ev.one s')
              have HMX := hide (show L.length + 1 ≤ maxLen ∧ (L.length + 1) * 72 ≤ 140737488355328 by unfold maxLen; omega)
              have HI1 := HI.out.1
              have HI2 := HI.out.2.1
              go_wp2_with (at_builtin; go_loud (refine wpList_append_own_at _ rfl (.tmp 218) (.tmp 229) 101 rfl wf.heap.size 113 i0 _ 9 72 Try.underlying101 HI.out.1 HI.out.2.1 HI.out.2.2.1 HI.out.2.2.2 rfl (by decide) (.slice af L.length cf) L.length (L.flatMap Ev) rfl HR3.out _ 1 1 (Ev s') rfl rfl HNC.out HVV.out HMX.out.1 HMX.out.2 HSZ.out ?_; intro v' w5 hown hgrow hnil hat; obtain ⟨g2, c2, rfl⟩ := own_some hown (by omega); have HOWN := hide hown; have HGROW := hide hgrow; have HAT := hide hat; clear hown hgrow hnil hat))
              clear HNC HVV HMX HI1 HI2
              have HE5 := hide (bel_grownE HEA.out HR3.out HGROW.out)
              have HR5 := hide (ERow.snoc HOWN.out)
              clear HR3 HGROW HOWN HAT HR HE HR4 HE4 HEA HSZ
              go_wp2
              first | refine HJ6.out _ _ ?rel (by kernel_rfl) rfl ?measure | refine HJ5.out _ _ ?rel (by kernel_rfl) rfl ?measure
              case rel => (try dsimp only [rdA, getL]); (exact ⟨t + 1, some ⟨g2, 0, none⟩, c2, by omega, by simp, by rw [HX1.out, List.length_append]; rfl, by rw [HX1.out, List.length_append]; exact HR5.out, HE5.out⟩)
              case measure => (try dsimp only [rdA, getL]); (simp [intOf]; omega)
            · have HX1 := hide (show frM (fuseP D tm) W V0 (t + 1) = L by rw [HX.out, if_neg (fun z => (HAL.out.1 rfl) z.2)])
              clear HX HAL cd'
              go_wp2
              first | refine HJ6.out _ _ ?rel (by kernel_rfl) rfl ?measure | refine HJ5.out _ _ ?rel (by kernel_rfl) rfl ?measure
              case rel => (try dsimp only [rdA, getL]); (exact ⟨t + 1, af, cf, by omega, by simp, by rw [HX1.out], by rw [HX1.out]; exact HR.out, HE.out⟩)
              case measure => (try dsimp only [rdA, getL]); (simp [intOf]; omega)
          · have hgd : decide (0 < g) = false := by simpa using hg0
            have HX1 := hide (show frM (fuseP D tm) W V0 (t + 1) = L by rw [HX.out, if_neg (fun z => hg0 z.1)])
            clear HX HAL cd'
            go_wp2
            first | refine HJ6.out _ _ ?rel (by kernel_rfl) rfl ?measure | refine HJ5.out _ _ ?rel (by kernel_rfl) rfl ?measure
            case rel => (try dsimp only [rdA, getL]); (exact ⟨t + 1, af, cf, by omega, by simp, by rw [HX1.out], by rw [HX1.out]; exact HR.out, HE.out⟩)
            case measure => (try dsimp only [rdA, getL]); (simp [intOf]; omega)
    · have hte : t = 112 := by omega
      subst hte
      rw [show ((112 : Nat) : Int) = 112 from rfl]
      go_wp2
      refine HKK.out _ _ _ _ _ _ _ _ _ _ _ _ _ _ _ _ _ _ _ _ _ _ _ _ _ _ _ _ _ _ _ _ _ _ _ _ _ _ _ _ _ _ _ _ _ _ _ _ _ _ _ _ ?_
      exact ⟨af, cf, rfl, HR.out, HE.out⟩
end Go.Proofs.Qxb6500777a
