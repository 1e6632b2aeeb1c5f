import Derived.Test.Qxb6500777aMt1
import Derived.Test.Qxb6500777aMt2
import Derived.Test.Qxb6500777aMt3
import Derived.Test.Qxb6500777aMt4
namespace Go.Proofs.Qxb6500777a
open Go.RowKit

set_option linter.unusedSimpArgs false in
set_option maxRecDepth 100000 in
set_option maxHeartbeats 400000000 in
/-- tracksm.tick -/
theorem mtick_any (w : World) (m mb o p : Nat) (tm : Int) (X Y : Nat → Int) (W : Nat → Tgt) (da : Option Addr) (nd cd : Nat) (D : List Det) (B : Nat) (a : Option Addr) (n c : Nat) (E : List Slt) (nx : Int)
    (hv : VA w mb o B a n c E nx) (hE : MI E nx) (hc : TC w m p X Y W da D) (hnd : nd = D.length) (hld : nd ≤ 1000000) (hW : ∀ t, t < 112 → TgtOk (W t)) (hne : TN m p mb da) (hx : 0 ≤ nx ∧ nx + 112 ≤ 1000000000) (h64 : n ≤ 64) :
    Calls Try.prog 44 #[.pointer (some ⟨m, 0, none⟩), .pointer (some ⟨mb, o, none⟩), .int .i64 tm, .slice da nd cd, .pointer (some ⟨p, 0, none⟩)] w (MtPost w mb o (MTick (fuseP D tm) W X Y E nx)) := by
  have HV := hide hv
  have HMI := hide hE
  have HTC := hide hc
  have HND := hide hnd
  have HWO := hide hW
  have HTN := hide hne
  have HMB := hide hv.ml
  have HLN := hide hv.len
  have HOB := hide (show ∀ s ∈ E, SltOk (obsS (fuseP D tm) W X Y s) from fun s hs => obs_ok (hE.ok.ok s hs) hW (fun _ => hE.ag s hs))
  have c0 := hv.c0
  clear hv hE hc hnd hW hne
  obtain ⟨i0, hi0, hz0, hz1, hz2⟩ : ∃ i0, Try.prog.info? 113 = some i0 ∧ i0.zero = some (.agg #[.int .i64 0, .int .i64 0, .int .i64 0, .int .i64 0, .int .i64 0, .int .i64 0, .int .i64 0, .int .i64 0, .int .i64 0]) ∧ i0.size = 9 ∧ i0.bytes = 72 := ⟨_, rfl, rfl, rfl, rfl⟩
  have HI := hide (And.intro hi0 (And.intro hz0 (And.intro hz1 hz2)))
  clear hi0 hz0 hz1 hz2
  go_enter Try.func44, Try.ntmps44
  go_upto_region 1 with fail
  clear c0
  have hmk := make113 w n (by omega)
  go_upto_region 2 with fail
  clear hmk
  have HAA := hide ((new_aa w n).congr (A' := obsA (fuseP D tm) W X Y E 0) (fun i _ => by unfold obsA; rw [if_neg (by omega)]))
  have HB := hide (be1 w (.cells (madeCells #[.int .i64 0, .int .i64 0, .int .i64 0, .int .i64 0, .int .i64 0, .int .i64 0, .int .i64 0, .int .i64 0, .int .i64 0] (n * 9)) 113))
  have HGL := hide (show w.heap.size < (w.alloc (.cells (madeCells #[.int .i64 0, .int .i64 0, .int .i64 0, .int .i64 0, .int .i64 0, .int .i64 0, .int .i64 0, .int .i64 0, .int .i64 0] (n * 9)) 113)).heap.size by simp)
  generalize w.alloc (.cells (madeCells #[.int .i64 0, .int .i64 0, .int .i64 0, .int .i64 0, .int .i64 0, .int .i64 0, .int .i64 0, .int .i64 0, .int .i64 0] (n * 9)) 113) = w1 at *
  obtain ⟨ga, hga⟩ : ∃ g, w.heap.size = g := ⟨_, rfl⟩
  have HGA := hide (show w.heap.size ≤ ga by omega)
  rw [hga] at HAA HGL ⊢
  clear hga
  go_upto_block 0 with fail
  go_cut [12, 13, 14] (fun _ _ _ wx => AA wx ga n (fun i => obsS (fuseP D tm) W X Y (atM E i)) ∧ ga < wx.heap.size ∧ Below w.heap.size w wx)
  case first =>
    rename_i JJ KJ hJJ hKJ
    refine mt1 w m mb o p tm X Y W da nd cd D B a n c E nx hld hx h64 HV HMI HTC HND HWO HTN HMB HLN HOB i0 HI w1 HB ga HGL HAA HGA _ _ ?_
    intro u12 u13 u14 u41 u42 u43 u44 u45 u46 u47 u48 u49 u50 u51 u52 u53 u54 u55 u56 u57 u58 u59 u60 u61 u62 u63 u64 u65 u66 u67 u68 u69 u70 u71 u72 u73 u74 u75 u76 u77 u78 wx hrel
    exact hKJ _ _ (hJJ _ _ ⟨u12, u13, u14, u41, u42, u43, u44, u45, u46, u47, u48, u49, u50, u51, u52, u53, u54, u55, u56, u57, u58, u59, u60, u61, u62, u63, u64, u65, u66, u67, u68, u69, u70, u71, u72, u73, u74, u75, u76, u77, u78, hrel, rfl⟩)
  obtain ⟨haa, hgl, hb⟩ := hcut
  clear HAA HGL HB
  have HAA := hide haa
  have HGL := hide hgl
  have HB := hide hb
  clear haa hgl hb
  go_upto_block 2 with fail
  go_cut [15, 16] (fun _ _ wx => AA wx ga n (passM (atM E) n n (fun i => obsS (fuseP D tm) W X Y (atM E i))) ∧ ga < wx.heap.size ∧ Below w.heap.size w wx)
  case first =>
    rename_i JJ KJ hJJ hKJ
    refine mt2 w m mb o p tm X Y W da nd cd D B a n c E nx hld hx h64 HV HMI HTC HND HWO HTN HMB HLN HOB i0 HI w1 ga HGA wc u12 u13 u14 u41 u42 u43 u44 u45 u46 u47 u48 u49 u50 u51 u52 u53 u54 u55 u56 u57 u58 u59 u60 u61 u62 u63 u64 u65 u66 u67 u68 u69 u70 u71 u72 u73 u74 u75 u76 u77 u78 HAA HGL HB _ _ ?_
    intro u15 u16 u79 u80 u81 u82 u83 u84 u85 u86 u87 u88 u89 u90 u91 u92 u93 u94 u95 u96 u97 u98 u99 u100 u101 u102 u103 u104 u105 u106 u107 u108 u109 u110 u111 u112 u113 u114 u115 u116 u117 u118 u119 u120 u121 u122 u123 u124 u125 u126 u127 u128 u129 u130 u131 u132 u133 u134 u135 u136 u137 u138 u139 u140 u141 u142 u143 u144 u145 u146 u147 u148 u149 u150 u151 u152 u153 u154 u155 u156 wx hrel
    exact hKJ _ _ (hJJ _ _ ⟨u15, u16, u79, u80, u81, u82, u83, u84, u85, u86, u87, u88, u89, u90, u91, u92, u93, u94, u95, u96, u97, u98, u99, u100, u101, u102, u103, u104, u105, u106, u107, u108, u109, u110, u111, u112, u113, u114, u115, u116, u117, u118, u119, u120, u121, u122, u123, u124, u125, u126, u127, u128, u129, u130, u131, u132, u133, u134, u135, u136, u137, u138, u139, u140, u141, u142, u143, u144, u145, u146, u147, u148, u149, u150, u151, u152, u153, u154, u155, u156, hrel, rfl⟩)
  obtain ⟨haa, hgl, hb⟩ := hcut
  clear HAA HGL HB
  have HA := hide haa
  have HG := hide hgl
  have HB := hide hb
  clear haa hgl hb
  have HPM := hide ((PM.first (obs := obsS (fuseP D tm) W X Y) (E := atM E) (n := n) (fun i _ => (obs_same (fuseP D tm) W X Y _).2.2)).pass n (Nat.le_refl _))
  generalize hwr : wc = wr at *
  clear hwr
  obtain ⟨S, hS⟩ : ∃ S, passM (atM E) n n (fun i => obsS (fuseP D tm) W X Y (atM E i)) = S := ⟨_, rfl⟩
  have HSM := hide (show drN S n = dropM (setM (obsS (fuseP D tm) W X Y) E) by rw [← hS]; unfold drN setM; rw [← HLN.out])
  rw [hS] at HA HPM
  clear hS
  have HSO := hide (show ∀ x, x < n → SltOk (S x) from fun x hx => by
    obtain ⟨y, hy, _, e⟩ := HPM.out.of x hx
    rw [e]
    exact numd_ok (HOB.out _ (atM_mem.2 ⟨y, by rw [← HLN.out]; exact hy, rfl⟩)) (HMI.out.ok.ok _ (atM_mem.2 ⟨x, by rw [← HLN.out]; exact hx, rfl⟩)).tr.num)
  have HVr := hide (HV.out.below HB.out)
  have c0 := HVr.out.c0
  have f0 := HVr.out.f
  have HGM := hide (show ga ≠ mb by have := HGA.out; have := HMB.out; omega)
  go_upto_region 20 with fail
  have HVR := hide (HVr.out.reset (B' := w.heap.size) HMB.out)
  have HF := hide ((Fr.of (lo := o) (n := 2) HMB.out HB.out).trans HVR.out.2)
  replace HA := hide (HA.out.keep HG.out HVR.out.2 HGM.out)
  replace HG := hide (Nat.lt_of_lt_of_le HG.out HVR.out.2.ex.size)
  clear c0 f0 HVr HB HV HPM
  generalize wr.setCell ⟨mb, o, none⟩ (.slice none 0 0) = w12 at *
  go_upto_block 6 with fail
  go_cut [17] (fun _ wx => ∃ (av : Option Addr) (cv : Nat), VA wx mb o w.heap.size av (drN S n).length cv (drN S n) nx ∧ Fr mb o 2 w wx)
  case first =>
    rename_i JJ KJ hJJ hKJ
    refine mt3 w m mb o p tm X Y W da nd cd D B a n c E nx hld hx h64 HMI HTC HND HWO HTN HMB HLN HOB i0 HI w1 ga HGA u12 u13 u14 u41 u42 u43 u44 u45 u46 u47 u48 u49 u50 u51 u52 u53 u54 u55 u56 u57 u58 u59 u60 u61 u62 u63 u64 u65 u66 u67 u68 u69 u70 u71 u72 u73 u74 u75 u76 u77 u78 wc u15 u16 u79 u80 u81 u82 u83 u84 u85 u86 u87 u88 u89 u90 u91 u92 u93 u94 u95 u96 u97 u98 u99 u100 u101 u102 u103 u104 u105 u106 u107 u108 u109 u110 u111 u112 u113 u114 u115 u116 u117 u118 u119 u120 u121 u122 u123 u124 u125 u126 u127 u128 u129 u130 u131 u132 u133 u134 u135 u136 u137 u138 u139 u140 u141 u142 u143 u144 u145 u146 u147 u148 u149 u150 u151 u152 u153 u154 u155 u156 wr S HSM HSO HGM w12 HVR HF HA HG _ _ ?_
    intro u17 u160 u161 u162 u163 u164 u165 u166 u167 u168 u169 u170 u171 u172 u173 u174 u175 u176 u177 u178 u179 u180 u181 u182 u183 u184 wx hrel
    exact hKJ _ _ (hJJ _ _ ⟨u17, u160, u161, u162, u163, u164, u165, u166, u167, u168, u169, u170, u171, u172, u173, u174, u175, u176, u177, u178, u179, u180, u181, u182, u183, u184, hrel, rfl⟩)
  obtain ⟨av, cv, hva, hfr⟩ := hcut
  clear HVR HA HG HF
  have HVr := hide hva
  have HF := hide hfr
  clear hva hfr
  rw [HSM.out] at HVr
  generalize hwr : wc = wr at *
  clear hwr
  have HVO := hide (show ∀ s ∈ dropM (setM (obsS (fuseP D tm) W X Y) E), SltOk s from fun s hs => by
    rw [← HSM.out] at hs
    unfold drN dropM at hs
    obtain ⟨x, hx, rfl⟩ := List.mem_map.1 (List.mem_filter.1 hs).1
    exact HSO.out x (List.mem_range.1 hx))
  have hVl : (dropM (setM (obsS (fuseP D tm) W X Y) E)).length ≤ n := by rw [← HSM.out]; exact drN_len S n
  clear HSM HSO
  obtain ⟨V0, hV0⟩ : ∃ V, dropM (setM (obsS (fuseP D tm) W X Y) E) = V := ⟨_, rfl⟩
  have HMT := hide (show ∀ E' nx', MAdm (frM (fuseP D tm) W V0 112) V0 nx E' nx' → MTick (fuseP D tm) W X Y E nx E' nx' from fun _ _ h => by unfold MTick; rw [hV0]; exact h)
  rw [hV0] at HVr HVO hVl
  clear hV0
  have HTF := hide (HTC.out.fr HTN.out HF.out)
  have HFO := hide (show ∀ t : Nat, t < 112 → SltOk ⟨true, t, 0, trk0⟩ from fun t ht => ⟨⟨by show (0 : Int) ≤ (t : Int); omega, by show (t : Int) < 112; omega⟩, ⟨by show (0 : Int) ≤ 0; omega, by show (0 : Int) ≤ 0 + 1; omega⟩, ⟨by show (0 : Int) ≤ 0 ∧ (0 : Int) ≤ 1000000000; omega, by show (-1048576 : Int) ≤ 0 ∧ (0 : Int) ≤ 1048576; omega, by show (-1048576 : Int) ≤ 0 ∧ (0 : Int) ≤ 1048576; omega, by show (0 : Int) ≤ 0 ∧ (0 : Int) < 4096; omega, by show (0 : Int) ≤ 0 ∧ (0 : Int) ≤ 2000; omega, by show (0 : Int) ≤ 0 ∧ (0 : Int) ≤ 3; omega, by show (0 : Int) ≤ 0 ∧ (0 : Int) ≤ 30; omega⟩⟩)
  obtain ⟨nV, hnV⟩ : ∃ x, V0.length = x := ⟨_, rfl⟩
  rw [hnV] at HVr hVl
  have HNV := hide hnV
  clear hnV
  generalize hwf : wr = wf at *
  clear hwf
  have HWF := hide (show w.heap.size ≤ wf.heap.size from HF.out.ex.size)
  go_upto_block 8 with fail
  go_cut [18, 19, 20, 21, 22] (fun s18 _ _ _ _ wx => ∃ (af : Option Addr) (cf : Nat), s18 = .slice af (frM (fuseP D tm) W V0 112).length cf ∧ ERow wx wf.heap.size (.slice af (frM (fuseP D tm) W V0 112).length cf) (frM (fuseP D tm) W V0 112) ∧ Below wf.heap.size wf wx)
  case first =>
    rename_i JJ KJ hJJ hKJ
    refine mt4 w m mb o p tm X Y W da nd cd D B a n c E nx hld hx h64 HMI HTC HND HWO HTN HMB HLN HOB i0 HI w1 ga HGA u12 u13 u14 u41 u42 u43 u44 u45 u46 u47 u48 u49 u50 u51 u52 u53 u54 u55 u56 u57 u58 u59 u60 u61 u62 u63 u64 u65 u66 u67 u68 u69 u70 u71 u72 u73 u74 u75 u76 u77 u78 u15 u16 u79 u80 u81 u82 u83 u84 u85 u86 u87 u88 u89 u90 u91 u92 u93 u94 u95 u96 u97 u98 u99 u100 u101 u102 u103 u104 u105 u106 u107 u108 u109 u110 u111 u112 u113 u114 u115 u116 u117 u118 u119 u120 u121 u122 u123 u124 u125 u126 u127 u128 u129 u130 u131 u132 u133 u134 u135 u136 u137 u138 u139 u140 u141 u142 u143 u144 u145 u146 u147 u148 u149 u150 u151 u152 u153 u154 u155 u156 S HGM w12 wc u17 u160 u161 u162 u163 u164 u165 u166 u167 u168 u169 u170 u171 u172 u173 u174 u175 u176 u177 u178 u179 u180 u181 u182 u183 u184 av cv wr V0 HVO HMT HFO nV hVl HNV wf HF HTF HVr HWF _ _ ?_
    intro u18 u19 u20 u21 u22 u185 u186 u187 u188 u189 u190 u191 u192 u193 u194 u195 u196 u197 u198 u199 u200 u201 u202 u203 u204 u205 u206 u207 u208 u209 u210 u211 u212 u213 u214 u215 u216 u217 u218 u219 u220 u221 u222 u223 u224 u225 u226 u227 u228 u229 u230 wx hrel
    exact hKJ _ _ (hJJ _ _ ⟨u18, u19, u20, u21, u22, u185, u186, u187, u188, u189, u190, u191, u192, u193, u194, u195, u196, u197, u198, u199, u200, u201, u202, u203, u204, u205, u206, u207, u208, u209, u210, u211, u212, u213, u214, u215, u216, u217, u218, u219, u220, u221, u222, u223, u224, u225, u226, u227, u228, u229, u230, hrel, rfl⟩)
  obtain ⟨af, cf, rfl, hr, hb⟩ := hcut
  have HR := hide hr
  have HE := hide hb
  clear hr hb
  generalize hwr : wc = wr at *
  clear hwr
  have HFE := hide (show ∀ s ∈ frM (fuseP D tm) W V0 112, SltOk s from fun s hs => by
    obtain ⟨t, t1, t2, _, rfl⟩ := (frM_mem 112 s).1 hs
    have h1 := obs_ok (best := (fuseP D tm)) (W := W) (X := X) (Y := Y) (HFO.out t t1) HWO.out (fun _ => by show (0 : Int) ≤ 29; omega)
    rw [vobs (t := t) rfl rfl, if_pos t2, nw_refresh (by omega)] at h1
    exact h1)
  have hFl := frM_len (best := (fuseP D tm)) (W := W) (V := V0) 112
  replace HVr := hide (HVr.out.below HE.out)
  replace HF := hide (HF.out.bel HMB.out HE.out)
  have HRw := hide (show ERow wr w.heap.size (.slice af (frM (fuseP D tm) W V0 112).length cf) (frM (fuseP D tm) W V0 112) from own_base HR.out HWF.out)
  clear HR HE HFO
  obtain ⟨F0, hF0⟩ : ∃ F, frM (fuseP D tm) W V0 112 = F := ⟨_, rfl⟩
  rw [hF0] at HFE hFl HRw HMT ⊢
  clear hF0
  rw [← HNV.out] at HVr
  go_wp2
  refine wp_loop_mix [none, none, none, none, none, none, none, none, none, none, none, none, none, none, none, none, none, none, some 18, none, none, none, none, some 23, some 24, some 25, some 26, some 27, some 28, some 29, some 30, some 31, some 32, some 33, none, none, none, none, none, none, none, none, none, none, none, none, none, none, none, none, none, none, none, none, none, none, none, none, none, none, none, none, none, none, none, none, none, none, none, none, none, none, none, none, none, none, none, none, none, none, none, none, none, none, none, none, none, none, none, none, none, none, none, none, none, none, none, none, none, none, none, none, none, none, none, none, none, none, none, none, none, none, none, none, none, none, none, none, none, none, none, none, none, none, none, none, none, none, none, none, none, none, none, none, none, none, none, none, none, none, none, none, none, none, none, none, none, none, none, none, none, none, none, none, none, none, none, none, none, none, none, none, none, none, none, none, none, none, none, none, none, none, none, none, none, none, none, none, none, none, none, none, none, none, none, none, none, none, none, none, none, none, none, none, none, none, none, none, none, none, none, none, none, none, none, none, none, none, none, none, none, none, none, none, none, none, none, none, none, none, none, none, none, none, none, none, none, none, none, none, none, some 231, some 232, some 233, some 234, some 235, some 236, some 237, some 238, some 239, some 240, some 241, some 242, some 243, some 244, some 245, some 246, some 247, some 248, some 249, some 250, some 251, some 252, some 253, some 254, some 255, some 256, some 257, some 258, some 259, some 260, some 261, some 262, some 263, some 264, some 265, some 266, some 267, some 268, some 269, some 270, some 271, some 272, some 273, some 274, some 275, some 276, some 277, some 278, some 279, some 280, some 281, some 282, some 283, some 284, some 285, some 286, some 287, some 288, some 289, some 290, some 291, some 292, some 293, some 294, some 295, some 296, some 297, some 298, some 299, some 300, some 301, some 302, some 303, some 304, some 305, some 306, some 307, some 308, some 309, some 310, some 311, some 312, some 313, some 314, some 315, some 316, some 317, some 318, some 319, some 320, some 321, some 322, some 323, some 324, some 325, some 326, some 327, some 328, some 329, some 330, some 331, some 332, some 333, some 334, some 335, some 336, some 337, some 338, some 339, some 340, some 341, some 342, some 343, some 344, some 345, some 346, some 347, some 348, some 349, some 350, some 351, some 352, some 353, some 354, some 355, some 356, some 357, some 358, some 359, some 360, some 361, some 362, some 363, some 364, some 365, some 366, some 367, some 368, some 369, some 370, some 371, some 372, some 373, some 374, some 375, some 376, some 377, some 378, some 379, some 380, some 381, some 382, some 383, some 384, some 385, some 386, some 387, some 388, some 389, some 390, some 391, some 392, some 393, some 394, some 395, some 396, some 397, some 398] (by kernel_rfl) (fun us wy => (fun s18 _ _ _ _ _ _ _ _ _ _ _ wy => ∃ (F V : List Slt) (nc : Int) (af : Option Addr) (cf : Nat) (av : Option Addr) (cv : Nat), s18 = .slice af F.length cf ∧ ERow wy w.heap.size (.slice af F.length cf) F ∧ VA wy mb o w.heap.size av V.length cv V nc ∧ Fr mb o 2 w wy ∧ Hid (∀ V' n', MAdm F V nc V' n' → MAdm F0 V0 nx V' n') ∧ Hid (∀ s ∈ F, SltOk s) ∧ Hid (∀ s ∈ V, SltOk s) ∧ (nx ≤ nc ∧ nc + F.length ≤ nx + 112) ∧ V.length ≤ 64 ∧ F.length ≤ 112) (us 18) (us 23) (us 24) (us 25) (us 26) (us 27) (us 28) (us 29) (us 30) (us 31) (us 32) (us 33) wy) (fun us wy => (fun s18 _ _ _ _ _ _ _ _ _ _ _ _ => lenV s18) (us 18) (us 23) (us 24) (us 25) (us 26) (us 27) (us 28) (us 29) (us 30) (us 31) (us 32) (us 33) wy) ?atStart ?round
  case atStart => (dsimp only [getL]; exact ⟨F0, V0, nx, af, cf, av, cv, rfl, HRw.out, HVr.out, HF.out, hide (fun _ _ h => h), HFE, HVO, by omega, by have := HNV.out; omega, hFl⟩)
  case round =>
    intro us wr hrel J7 hJ7
    dsimp only at hrel hJ7
    dsimp only [mixF]
    generalize us 18 = s18 at hrel hJ7 ⊢
    have HJ7 := hide hJ7
    clear hJ7
    clear HRw HVr HF HFE HVO
    obtain ⟨F, V, nc, af, cf, av, cv, rfl, hr, hva, hfr, HC, HFO, HVO, hnc, hVl, hFl⟩ := hrel
    have HR := hide hr
    have HVr := hide hva
    have HFr := hide hfr
    clear hr hva hfr
    by_cases hF : F.length = 0
    · have hF0 : F = [] := List.length_eq_zero_iff.1 hF
      subst hF0
      have HPO := hide (show MtPost w mb o (MTick (fuseP D tm) W X Y E nx) (.returned (.tuple #[])) wr from ⟨av, cv, V, nc, rfl, HVr.out, HFr.out, HMT.out V nc (HC.out V nc (MAdm.done V nc))⟩)
      rw [List.length_nil]
      go_wp2
      exact bodyPost_ret (v := .tuple #[]) (by simp [results, Try.results44, go_sem]) rfl HPO.out
    · obtain ⟨nF, hnF⟩ : ∃ x, F.length = x := ⟨_, rfl⟩
      rw [hnF] at HR hF hFl hnc ⊢
      have HNF := hide hnF
      clear hnF
      have hnp : 0 < nF := by omega
      have hnpi : (0 : Int) < (nF : Int) := by omega
      have hnpb : decide ((0 : Int) < (nF : Int)) = true := by simp; omega
      obtain ⟨f0, hf0⟩ : ∃ f, F[0]? = some f := ⟨_, List.getElem?_eq_getElem (by have := HNF.out; omega)⟩
      obtain ⟨gf, ef, -⟩ := HR.out.get HNF.out.symm hf0
      subst ef
      clear hf0 hF
      generalize hwi : wr = wi at *
      clear hwi
      go_upto_region 39 with fail
      go_wp2
      refine wp_loop_mix [none, none, none, none, none, none, none, none, none, none, none, none, none, none, none, none, none, none, none, none, none, none, none, some 23, some 24, none, none, none, none, none, none, none, none, none, none, none, none, none, none, none, none, none, none, none, none, none, none, none, none, none, none, none, none, none, none, none, none, none, none, none, none, none, none, none, none, none, none, none, none, none, none, none, none, none, none, none, none, none, none, none, none, none, none, none, none, none, none, none, none, none, none, none, none, none, none, none, none, none, none, none, none, none, none, none, none, none, none, none, none, none, none, none, none, none, none, none, none, none, none, none, none, none, none, none, none, none, none, none, none, none, none, none, none, none, none, none, none, none, none, none, none, none, none, none, none, none, none, none, none, none, none, none, none, none, none, none, none, none, none, none, none, none, none, none, none, none, none, none, none, none, none, none, none, none, none, none, none, none, none, none, none, none, none, none, none, none, none, none, none, none, none, none, none, none, none, none, none, none, none, none, none, none, none, none, none, none, none, none, none, none, none, none, none, none, none, none, none, none, none, none, none, none, none, none, none, none, none, none, none, none, none, none, none, none, some 234, some 235, some 236, some 237, some 238, some 239, some 240, some 241, some 242, some 243, some 244, some 245, some 246, some 247, some 248, some 249, some 250, some 251, none, none, none, none, none, none, none, none, none, none, none, none, none, none, none, none, none, none, none, none, none, none, none, none, none, none, none, none, none, none, none, none, none, none, none, none, none, none, none, none, none, none, none, none, none, none, none, none, none, none, none, none, none, none, none, none, none, none, none, none, none, none, none, none, none, none, none, none, none, none, none, none, none, none, none, none, none, none, none, none, none, none, none, none, none, none, none, none, none, none, none, none, none, none, none, none, none, none, none, none, none, none, none, none, none, none, none, none, none, none, none, none, none, none, none, none, none, none, none, none, none, none, none, none, none, none, none, none, none, none, none, none, none, none, none, none, none, none, none, none, none, none, none, none, none, none, none] (by kernel_rfl) (fun us wy => (fun s23 s24 wy => ∃ (i x : Nat), 1 ≤ i ∧ i ≤ nF ∧ x < nF ∧ s24 = .int .i64 i ∧ s23 = .int .i64 x ∧ Hid (∀ (k : Nat) (f fx : Slt), k < i → F[k]? = some f → F[x]? = some fx → keyP fx ≤ keyP f) ∧ Below wi.heap.size wi wy) (us 23) (us 24) wy) (fun us wy => (fun _ s24 _ => nF - (intOf s24).toNat) (us 23) (us 24) wy) ?atStart ?round
      case atStart => (dsimp only [getL]; exact ⟨1, 0, by omega, by omega, by omega, rfl, rfl, hide (fun k f fx hk h1 h2 => by obtain rfl : k = 0 := (by omega); rw [h1] at h2; cases h2; exact Int.le_refl _), Below.refl _ _⟩)
      case round =>
        intro us wr hrel J8 hJ8
        dsimp only at hrel hJ8
        dsimp only [mixF]
        generalize us 23 = s23 at hrel hJ8 ⊢
        generalize us 24 = s24 at hrel hJ8 ⊢
        have HJ8 := hide hJ8
        clear hJ8
        obtain ⟨i, x, hi1, hi, hx, rfl, rfl, HMN, hb⟩ := hrel
        have HE := hide hb
        clear hb
        by_cases hin : i < nF
        · have hini : (i : Int) < (nF : Int) := by omega
          have hxi : (x : Int) < (nF : Int) := by omega
          have hi0' : decide ((i : Int) < 0) = false := by simp
          have hx0' : decide ((x : Int) < 0) = false := by simp
          obtain ⟨fi, hfi⟩ : ∃ f, F[i]? = some f := ⟨_, List.getElem?_eq_getElem (by have := HNF.out; omega)⟩
          obtain ⟨fx, hfx⟩ : ∃ f, F[x]? = some f := ⟨_, List.getElem?_eq_getElem (by have := HNF.out; omega)⟩
          have HOI := hide (HFO.out fi (List.mem_of_getElem? hfi))
          have HOX := hide (HFO.out fx (List.mem_of_getElem? hfx))
          have HQ := hide (Below.refl wr.heap.size wr)
          have zz := fun wx (h : Below wr.heap.size wr wx) => z43 ((HR.out.below HE.out).below h) HNF.out hfi hfx
          have zS := zz _ (Below.refl _ _).drew
          by_cases hlt : keyP fi < keyP fx
          · have hlb : decide (keyP fi < keyP fx) = true := by simpa using hlt
            have HMN2 := hide (show ∀ (k : Nat) (f g : Slt), k < i + 1 → F[k]? = some f → F[i]? = some g → keyP g ≤ keyP f from fun k f g hk h1 h2 => by
              rw [hfi] at h2; cases h2
              rcases (by omega : k < i ∨ k = i) with z | rfl
              · have := HMN.out k f fx z h1 hfx; omega
              · rw [hfi] at h1; cases h1; exact Int.le_refl _)
            clear hfi hfx hlt
            go_upto_region 43 with fail
            refine wp_region_held_drew (S := fun w' => RA w' gf (i * 9) (Ev fi) ∧ RA w' gf (x * 9) (Ev fx)) (by kernel_rfl) zS (fun hHeld => ?_)
            refine wpAnyH_take (i := 0) (v := ?_) rfl (by kernel_rfl) (by kernel_rfl) (by kernel_rfl) (fun _ _ _ h => h) (Or.inl ⟨by rfl, ?_⟩) (by assumption) ?_
            rotate_left
            · (intro w hSw; (try dsimp only at hSw); go_simp; try (with_reducible rfl))
            try simp only [Act.put, List.getElem_toArray, List.getElem_cons_zero, List.getElem_cons_succ, List.setIfInBounds_toArray, List.set_cons_zero, List.set_cons_succ]
            refine wpAnyH_take (i := 1) (v := ?_) rfl (by kernel_rfl) (by kernel_rfl) (by kernel_rfl) (fun _ _ _ h => h) (Or.inl ⟨by rfl, ?_⟩) (by assumption) ?_
            rotate_left
            · (intro w hSw; (try dsimp only at hSw); go_simp; try (with_reducible rfl))
            try simp only [Act.put, List.getElem_toArray, List.getElem_cons_zero, List.getElem_cons_succ, List.setIfInBounds_toArray, List.set_cons_zero, List.set_cons_succ]
            refine wpAnyH_take (i := 2) (v := ?_) rfl (by kernel_rfl) (by kernel_rfl) (by kernel_rfl) (fun _ _ _ h => h) (Or.inl ⟨by rfl, ?_⟩) (by assumption) ?_
            rotate_left
            · (intro w hSw; (try dsimp only at hSw); go_simp; try (with_reducible rfl))
            try simp only [Act.put, List.getElem_toArray, List.getElem_cons_zero, List.getElem_cons_succ, List.setIfInBounds_toArray, List.set_cons_zero, List.set_cons_succ]
            refine wpAnyH_take (i := 3) (v := ?_) rfl (by kernel_rfl) (by kernel_rfl) (by kernel_rfl) (fun _ _ _ h => h) (Or.inl ⟨by rfl, ?_⟩) (by assumption) ?_
            rotate_left
            · (intro w hSw; (try dsimp only at hSw); ((obtain ⟨z0, z1, z2, z3, z4, z5, z6, z7, z8⟩ := hSw.1.ee)); go_simp; try (with_reducible rfl))
            try simp only [Act.put, List.getElem_toArray, List.getElem_cons_zero, List.getElem_cons_succ, List.setIfInBounds_toArray, List.set_cons_zero, List.set_cons_succ]
            refine wpAnyH_take (i := 5) (v := ?_) rfl (by kernel_rfl) (by kernel_rfl) (by kernel_rfl) (fun _ _ _ h => h) (Or.inl ⟨by rfl, ?_⟩) (by assumption) ?_
            rotate_left
            · (intro w hSw; (try dsimp only at hSw); go_simp; try (with_reducible rfl))
            try simp only [Act.put, List.getElem_toArray, List.getElem_cons_zero, List.getElem_cons_succ, List.setIfInBounds_toArray, List.set_cons_zero, List.set_cons_succ]
            refine wpAnyH_take (i := 6) (v := ?_) rfl (by kernel_rfl) (by kernel_rfl) (by kernel_rfl) (fun _ _ _ h => h) (Or.inl ⟨by rfl, ?_⟩) (by assumption) ?_
            rotate_left
            · (intro w hSw; (try dsimp only at hSw); go_simp; try (with_reducible rfl))
            try simp only [Act.put, List.getElem_toArray, List.getElem_cons_zero, List.getElem_cons_succ, List.setIfInBounds_toArray, List.set_cons_zero, List.set_cons_succ]
            refine wpAnyH_take (i := 7) (v := ?_) rfl (by kernel_rfl) (by kernel_rfl) (by kernel_rfl) (fun _ _ _ h => h) (Or.inl ⟨by rfl, ?_⟩) (by assumption) ?_
            rotate_left
            · (intro w hSw; (try dsimp only at hSw); go_simp; try (with_reducible rfl))
            try simp only [Act.put, List.getElem_toArray, List.getElem_cons_zero, List.getElem_cons_succ, List.setIfInBounds_toArray, List.set_cons_zero, List.set_cons_succ]
            refine wpAnyH_take (i := 8) (v := ?_) rfl (by kernel_rfl) (by kernel_rfl) (by kernel_rfl) (fun _ _ _ h => h) (Or.inl ⟨by rfl, ?_⟩) (by assumption) ?_
            rotate_left
            · (intro w hSw; (try dsimp only at hSw); ((obtain ⟨z0, z1, z2, z3, z4, z5, z6, z7, z8⟩ := hSw.2.ee)); go_simp; try (with_reducible rfl))
            try simp only [Act.put, List.getElem_toArray, List.getElem_cons_zero, List.getElem_cons_succ, List.setIfInBounds_toArray, List.set_cons_zero, List.set_cons_succ]
            refine wpAnyH_ready (rs := [4]) (by kernel_rfl) (by simp) ?_
            refine (AllReadyH.cons rfl (fun K hK => ?_) AllReadyH.nil)
            · refine step_call rfl 66 #[.agg #[.int .i64 fi.tg, .int .i64 fi.sk, .int .i64 fi.tr.num, .int .i64 fi.tr.x, .int .i64 fi.tr.y, .int .i64 fi.tr.co, .int .i64 fi.tr.sp, .int .i64 fi.tr.st, .int .i64 fi.tr.ag]] (by simp [go_sem]) (key_any _ fi) ?_
              rintro e' w3 ⟨rfl, b3⟩
              replace b3 := of_drew b3
              have HQ3 := hide (lec HQ.out b3)
              have zS3 := zz _ HQ3.out
              clear b3
              refine ⟨_, rfl, ?_⟩
              refine hK.out _ _ ?_ (fun hHeld => ?_)
              · (first | with_reducible exact zS | with_reducible exact zS3 | with_reducible exact zS4 | with_reducible exact zS5)
              clear hK K
              try simp only [Act.put, List.getElem_toArray, List.getElem_cons_zero, List.getElem_cons_succ, List.setIfInBounds_toArray, List.set_cons_zero, List.set_cons_succ]
              refine wpAnyH_ready (rs := [9]) (by kernel_rfl) (by simp) ?_
              refine (AllReadyH.cons rfl (fun K hK => ?_) AllReadyH.nil)
              · refine step_call rfl 66 #[.agg #[.int .i64 fx.tg, .int .i64 fx.sk, .int .i64 fx.tr.num, .int .i64 fx.tr.x, .int .i64 fx.tr.y, .int .i64 fx.tr.co, .int .i64 fx.tr.sp, .int .i64 fx.tr.st, .int .i64 fx.tr.ag]] (by simp [go_sem]) (key_any _ fx) ?_
                rintro e' w4 ⟨rfl, b4⟩
                have HQ4 := hide (lec HQ3.out b4)
                have zS4 := zz _ HQ4.out
                clear b4
                refine ⟨_, rfl, ?_⟩
                refine hK.out _ _ ?_ (fun hHeld => ?_)
                · (first | with_reducible exact zS | with_reducible exact zS3 | with_reducible exact zS4 | with_reducible exact zS5)
                clear hK K
                try simp only [Act.put, List.getElem_toArray, List.getElem_cons_zero, List.getElem_cons_succ, List.setIfInBounds_toArray, List.set_cons_zero, List.set_cons_succ]
                refine wpAnyH_ready (rs := [10]) (by kernel_rfl) (by simp) ?_
                refine (AllReadyH.cons rfl (fun K hK => ?_) AllReadyH.nil)
                · refine step_call rfl 67 #[.agg #[.int .i64 fi.tr.ag, .int .i64 fi.tr.x, .int .i64 fi.tr.y, .int .i64 fi.tr.co, .int .i64 fi.tr.sp, .int .i64 fi.tr.st, .int .i64 fi.sk], .agg #[.int .i64 fx.tr.ag, .int .i64 fx.tr.x, .int .i64 fx.tr.y, .int .i64 fx.tr.co, .int .i64 fx.tr.sp, .int .i64 fx.tr.st, .int .i64 fx.sk]] (by simp [go_sem]) (less_any _ fi fx HOI.out HOX.out) ?_
                  rintro e' w5 ⟨rfl, b5⟩
                  have HQ5 := hide (lec HQ4.out b5)
                  have zS5 := zz _ HQ5.out
                  clear b5
                  rw [hlb]
                  refine ⟨_, rfl, ?_⟩
                  refine hK.out _ _ ?_ (fun hHeld => ?_)
                  · (first | with_reducible exact zS | with_reducible exact zS3 | with_reducible exact zS4 | with_reducible exact zS5)
                  clear hK K
                  try simp only [Act.put, List.getElem_toArray, List.getElem_cons_zero, List.getElem_cons_succ, List.setIfInBounds_toArray, List.set_cons_zero, List.set_cons_succ]
                  refine wpAnyH_done (by kernel_rfl) ?_ _
                  clear zS zS3 zS4 zS5 zz
                  go_wp2
                  first | refine HJ8.out _ _ ?rel (by kernel_rfl) rfl ?measure | refine HJ7.out _ _ ?rel (by kernel_rfl) rfl ?measure
                  case rel => (try dsimp only [rdA, getL]); (exact ⟨i + 1, i, by omega, by omega, by omega, by simp, by simp, HMN2, lec HE.out HQ5.out⟩)
                  case measure => (try dsimp only [rdA, getL]); (simp [intOf]; omega)
          · have hlb : decide (keyP fi < keyP fx) = false := by simpa using hlt
            have HMN2 := hide (show ∀ (k : Nat) (f g : Slt), k < i + 1 → F[k]? = some f → F[x]? = some g → keyP g ≤ keyP f from fun k f g hk h1 h2 => by
              rcases (by omega : k < i ∨ k = i) with z | rfl
              · exact HMN.out k f g z h1 h2
              · rw [hfi] at h1; cases h1; rw [hfx] at h2; cases h2; omega)
            clear hfi hfx hlt
            go_upto_region 43 with fail
            refine wp_region_held_drew (S := fun w' => RA w' gf (i * 9) (Ev fi) ∧ RA w' gf (x * 9) (Ev fx)) (by kernel_rfl) zS (fun hHeld => ?_)
            refine wpAnyH_take (i := 0) (v := ?_) rfl (by kernel_rfl) (by kernel_rfl) (by kernel_rfl) (fun _ _ _ h => h) (Or.inl ⟨by rfl, ?_⟩) (by assumption) ?_
            rotate_left
            · (intro w hSw; (try dsimp only at hSw); go_simp; try (with_reducible rfl))
            try simp only [Act.put, List.getElem_toArray, List.getElem_cons_zero, List.getElem_cons_succ, List.setIfInBounds_toArray, List.set_cons_zero, List.set_cons_succ]
            refine wpAnyH_take (i := 1) (v := ?_) rfl (by kernel_rfl) (by kernel_rfl) (by kernel_rfl) (fun _ _ _ h => h) (Or.inl ⟨by rfl, ?_⟩) (by assumption) ?_
            rotate_left
            · (intro w hSw; (try dsimp only at hSw); go_simp; try (with_reducible rfl))
            try simp only [Act.put, List.getElem_toArray, List.getElem_cons_zero, List.getElem_cons_succ, List.setIfInBounds_toArray, List.set_cons_zero, List.set_cons_succ]
            refine wpAnyH_take (i := 2) (v := ?_) rfl (by kernel_rfl) (by kernel_rfl) (by kernel_rfl) (fun _ _ _ h => h) (Or.inl ⟨by rfl, ?_⟩) (by assumption) ?_
            rotate_left
            · (intro w hSw; (try dsimp only at hSw); go_simp; try (with_reducible rfl))
            try simp only [Act.put, List.getElem_toArray, List.getElem_cons_zero, List.getElem_cons_succ, List.setIfInBounds_toArray, List.set_cons_zero, List.set_cons_succ]
            refine wpAnyH_take (i := 3) (v := ?_) rfl (by kernel_rfl) (by kernel_rfl) (by kernel_rfl) (fun _ _ _ h => h) (Or.inl ⟨by rfl, ?_⟩) (by assumption) ?_
            rotate_left
            · (intro w hSw; (try dsimp only at hSw); ((obtain ⟨z0, z1, z2, z3, z4, z5, z6, z7, z8⟩ := hSw.1.ee)); go_simp; try (with_reducible rfl))
            try simp only [Act.put, List.getElem_toArray, List.getElem_cons_zero, List.getElem_cons_succ, List.setIfInBounds_toArray, List.set_cons_zero, List.set_cons_succ]
            refine wpAnyH_take (i := 5) (v := ?_) rfl (by kernel_rfl) (by kernel_rfl) (by kernel_rfl) (fun _ _ _ h => h) (Or.inl ⟨by rfl, ?_⟩) (by assumption) ?_
            rotate_left
            · (intro w hSw; (try dsimp only at hSw); go_simp; try (with_reducible rfl))
            try simp only [Act.put, List.getElem_toArray, List.getElem_cons_zero, List.getElem_cons_succ, List.setIfInBounds_toArray, List.set_cons_zero, List.set_cons_succ]
            refine wpAnyH_take (i := 6) (v := ?_) rfl (by kernel_rfl) (by kernel_rfl) (by kernel_rfl) (fun _ _ _ h => h) (Or.inl ⟨by rfl, ?_⟩) (by assumption) ?_
            rotate_left
            · (intro w hSw; (try dsimp only at hSw); go_simp; try (with_reducible rfl))
            try simp only [Act.put, List.getElem_toArray, List.getElem_cons_zero, List.getElem_cons_succ, List.setIfInBounds_toArray, List.set_cons_zero, List.set_cons_succ]
            refine wpAnyH_take (i := 7) (v := ?_) rfl (by kernel_rfl) (by kernel_rfl) (by kernel_rfl) (fun _ _ _ h => h) (Or.inl ⟨by rfl, ?_⟩) (by assumption) ?_
            rotate_left
            · (intro w hSw; (try dsimp only at hSw); go_simp; try (with_reducible rfl))
            try simp only [Act.put, List.getElem_toArray, List.getElem_cons_zero, List.getElem_cons_succ, List.setIfInBounds_toArray, List.set_cons_zero, List.set_cons_succ]
            refine wpAnyH_take (i := 8) (v := ?_) rfl (by kernel_rfl) (by kernel_rfl) (by kernel_rfl) (fun _ _ _ h => h) (Or.inl ⟨by rfl, ?_⟩) (by assumption) ?_
            rotate_left
            · (intro w hSw; (try dsimp only at hSw); ((obtain ⟨z0, z1, z2, z3, z4, z5, z6, z7, z8⟩ := hSw.2.ee)); go_simp; try (with_reducible rfl))
            try simp only [Act.put, List.getElem_toArray, List.getElem_cons_zero, List.getElem_cons_succ, List.setIfInBounds_toArray, List.set_cons_zero, List.set_cons_succ]
            refine wpAnyH_ready (rs := [4]) (by kernel_rfl) (by simp) ?_
            refine (AllReadyH.cons rfl (fun K hK => ?_) AllReadyH.nil)
            · refine step_call rfl 66 #[.agg #[.int .i64 fi.tg, .int .i64 fi.sk, .int .i64 fi.tr.num, .int .i64 fi.tr.x, .int .i64 fi.tr.y, .int .i64 fi.tr.co, .int .i64 fi.tr.sp, .int .i64 fi.tr.st, .int .i64 fi.tr.ag]] (by simp [go_sem]) (key_any _ fi) ?_
              rintro e' w3 ⟨rfl, b3⟩
              replace b3 := of_drew b3
              have HQ3 := hide (lec HQ.out b3)
              have zS3 := zz _ HQ3.out
              clear b3
              refine ⟨_, rfl, ?_⟩
              refine hK.out _ _ ?_ (fun hHeld => ?_)
              · (first | with_reducible exact zS | with_reducible exact zS3 | with_reducible exact zS4 | with_reducible exact zS5)
              clear hK K
              try simp only [Act.put, List.getElem_toArray, List.getElem_cons_zero, List.getElem_cons_succ, List.setIfInBounds_toArray, List.set_cons_zero, List.set_cons_succ]
              refine wpAnyH_ready (rs := [9]) (by kernel_rfl) (by simp) ?_
              refine (AllReadyH.cons rfl (fun K hK => ?_) AllReadyH.nil)
              · refine step_call rfl 66 #[.agg #[.int .i64 fx.tg, .int .i64 fx.sk, .int .i64 fx.tr.num, .int .i64 fx.tr.x, .int .i64 fx.tr.y, .int .i64 fx.tr.co, .int .i64 fx.tr.sp, .int .i64 fx.tr.st, .int .i64 fx.tr.ag]] (by simp [go_sem]) (key_any _ fx) ?_
                rintro e' w4 ⟨rfl, b4⟩
                have HQ4 := hide (lec HQ3.out b4)
                have zS4 := zz _ HQ4.out
                clear b4
                refine ⟨_, rfl, ?_⟩
                refine hK.out _ _ ?_ (fun hHeld => ?_)
                · (first | with_reducible exact zS | with_reducible exact zS3 | with_reducible exact zS4 | with_reducible exact zS5)
                clear hK K
                try simp only [Act.put, List.getElem_toArray, List.getElem_cons_zero, List.getElem_cons_succ, List.setIfInBounds_toArray, List.set_cons_zero, List.set_cons_succ]
                refine wpAnyH_ready (rs := [10]) (by kernel_rfl) (by simp) ?_
                refine (AllReadyH.cons rfl (fun K hK => ?_) AllReadyH.nil)
                · refine step_call rfl 67 #[.agg #[.int .i64 fi.tr.ag, .int .i64 fi.tr.x, .int .i64 fi.tr.y, .int .i64 fi.tr.co, .int .i64 fi.tr.sp, .int .i64 fi.tr.st, .int .i64 fi.sk], .agg #[.int .i64 fx.tr.ag, .int .i64 fx.tr.x, .int .i64 fx.tr.y, .int .i64 fx.tr.co, .int .i64 fx.tr.sp, .int .i64 fx.tr.st, .int .i64 fx.sk]] (by simp [go_sem]) (less_any _ fi fx HOI.out HOX.out) ?_
                  rintro e' w5 ⟨rfl, b5⟩
                  have HQ5 := hide (lec HQ4.out b5)
                  have zS5 := zz _ HQ5.out
                  clear b5
                  rw [hlb]
                  refine ⟨_, rfl, ?_⟩
                  refine hK.out _ _ ?_ (fun hHeld => ?_)
                  · (first | with_reducible exact zS | with_reducible exact zS3 | with_reducible exact zS4 | with_reducible exact zS5)
                  clear hK K
                  try simp only [Act.put, List.getElem_toArray, List.getElem_cons_zero, List.getElem_cons_succ, List.setIfInBounds_toArray, List.set_cons_zero, List.set_cons_succ]
                  refine wpAnyH_done (by kernel_rfl) ?_ _
                  clear zS zS3 zS4 zS5 zz
                  go_wp2
                  first | refine HJ8.out _ _ ?rel (by kernel_rfl) rfl ?measure | refine HJ7.out _ _ ?rel (by kernel_rfl) rfl ?measure
                  case rel => (try dsimp only [rdA, getL]); (exact ⟨i + 1, x, by omega, by omega, by omega, by simp, by simp, HMN2, lec HE.out HQ5.out⟩)
                  case measure => (try dsimp only [rdA, getL]); (simp [intOf]; omega)
        · have hini : ¬ (i : Int) < (nF : Int) := by omega
          have hxi : (x : Int) < (nF : Int) := by omega
          have hx0' : decide ((x : Int) < 0) = false := by simp
          obtain ⟨fx, hfx⟩ : ∃ f, F[x]? = some f := ⟨_, List.getElem?_eq_getElem (by have := HNF.out; omega)⟩
          have HOX := hide (HFO.out fx (List.mem_of_getElem? hfx))
          have HXM := hide (List.mem_of_getElem? hfx)
          have HMI2 := hide (show ∀ b ∈ F, keyP fx ≤ keyP b from fun b hb => by
            obtain ⟨k, hk⟩ := List.mem_iff_getElem?.1 hb
            exact HMN.out k b fx (by have := (List.getElem?_eq_some_iff.1 hk).1; have := HNF.out; omega) hk hfx)
          have HFX := hide hfx
          replace HR := hide (HR.out.below HE.out)
          replace HVr := hide (HVr.out.below HE.out)
          replace HFr := hide (HFr.out.bel HMB.out HE.out)
          clear hfx HMN HE hin
          go_upto_region 45 with fail
          have HWI := hide (show w.heap.size ≤ wr.heap.size from HFr.out.ex.size)
          have HVL := hide (show ∀ g, (Value.slice av V.length cv).ownBlock = some g → g < wr.heap.size from fun g e => (HVr.out.row.own e).2)
          generalize hwj : wr = wj at *
          clear hwj
          go_wp2
          refine wp_loop_mix [none, none, none, none, none, none, none, none, none, none, none, none, none, none, none, none, none, none, none, none, none, none, none, none, none, some 25, some 26, some 27, none, none, none, none, none, none, none, none, none, none, none, none, none, none, none, none, none, none, none, none, none, none, none, none, none, none, none, none, none, none, none, none, none, none, none, none, none, none, none, none, none, none, none, none, none, none, none, none, none, none, none, none, none, none, none, none, none, none, none, none, none, none, none, none, none, none, none, none, none, none, none, none, none, none, none, none, none, none, none, none, none, none, none, none, none, none, none, none, none, none, none, none, none, none, none, none, none, none, none, none, none, none, none, none, none, none, none, none, none, none, none, none, none, none, none, none, none, none, none, none, none, none, none, none, none, none, none, none, none, none, none, none, none, none, none, none, none, none, none, none, none, none, none, none, none, none, none, none, none, none, none, none, none, none, none, none, none, none, none, none, none, none, none, none, none, none, none, none, none, none, none, none, none, none, none, none, none, none, none, none, none, none, none, none, none, none, none, none, none, none, none, none, none, none, none, none, none, none, none, none, none, none, none, none, none, none, none, none, none, none, none, none, none, none, none, none, none, none, none, none, none, none, none, none, some 252, some 253, some 254, some 255, some 256, some 257, some 258, some 259, some 260, some 261, some 262, some 263, some 264, some 265, some 266, some 267, some 268, some 269, some 270, some 271, some 272, some 273, some 274, some 275, some 276, some 277, some 278, some 279, some 280, some 281, some 282, none, none, none, none, none, none, none, none, none, none, none, none, none, none, none, none, none, none, none, none, none, none, none, none, none, none, none, none, none, none, none, none, none, none, none, none, none, none, none, none, none, none, none, none, none, none, none, none, none, none, none, none, none, none, none, none, none, none, none, none, none, none, none, none, none, none, none, none, none, none, none, none, none, none, none, none, none, none, none, none, none, none, none, none, none, none, none, none, none, none, none, none, none, none, none, none, none, none, none, none, none, none, none, none, none, none, none, none, none, none, none, none, none, none, none, none] (by kernel_rfl) (fun us wy => (fun s25 s26 s27 wy => ∃ (i : Nat) (ag : Option Addr) (cg : Nat) (ar : Option Addr) (cr : Nat), i ≤ nF ∧ s27 = .int .i64 i ∧ s25 = .slice ag ((F.take i).filter (fun s => decide (keyP s = keyP fx))).length cg ∧ s26 = .slice ar ((F.take i).filter (fun s => decide (keyP s ≠ keyP fx))).length cr ∧ ERow wy wj.heap.size (.slice ag ((F.take i).filter (fun s => decide (keyP s = keyP fx))).length cg) ((F.take i).filter (fun s => decide (keyP s = keyP fx))) ∧ ERow wy wj.heap.size (.slice ar ((F.take i).filter (fun s => decide (keyP s ≠ keyP fx))).length cr) ((F.take i).filter (fun s => decide (keyP s ≠ keyP fx))) ∧ Hid (∀ g, (Value.slice ag ((F.take i).filter (fun s => decide (keyP s = keyP fx))).length cg).ownBlock = some g → (Value.slice ar ((F.take i).filter (fun s => decide (keyP s ≠ keyP fx))).length cr).ownBlock ≠ some g) ∧ Below wj.heap.size wj wy) (us 25) (us 26) (us 27) wy) (fun us wy => (fun _ _ s27 _ => nF - (intOf s27).toNat) (us 25) (us 26) (us 27) wy) ?atStart ?round
          case atStart => (dsimp only [getL]; exact ⟨0, none, 0, none, 0, by omega, rfl, rfl, rfl, World.ownsRow_nil _ _ _ _, World.ownsRow_nil _ _ _ _, hide (fun g e => by cases e), Below.refl _ _⟩)
          case round =>
            intro us wr hrel J9 hJ9
            dsimp only at hrel hJ9
            dsimp only [mixF]
            generalize us 25 = s25 at hrel hJ9 ⊢
            generalize us 26 = s26 at hrel hJ9 ⊢
            generalize us 27 = s27 at hrel hJ9 ⊢
            have HJ9 := hide hJ9
            clear hJ9
            obtain ⟨i, ag, cg, ar, cr, hi, rfl, rfl, rfl, hg, ht, HNE, hb⟩ := hrel
            have HG := hide hg
            have HT := hide ht
            have HE := hide hb
            clear hg ht hb
            by_cases hin : i < nF
            · have hini : (i : Int) < (nF : Int) := by omega
              have hi0' : decide ((i : Int) < 0) = false := by simp
              obtain ⟨fi, hfi⟩ : ∃ f, F[i]? = some f := ⟨_, List.getElem?_eq_getElem (by have := HNF.out; omega)⟩
              have HFI := hide hfi
              have HOI := hide (HFO.out fi (List.mem_of_getElem? hfi))
              have HXG := hide (filt_take (p := fun s => decide (keyP s = keyP fx)) hfi)
              have HXR := hide (filt_take (p := fun s => decide (keyP s ≠ keyP fx)) hfi)
              have hGl : ((F.take i).filter (fun s => decide (keyP s = keyP fx))).length ≤ i := Nat.le_trans (List.length_filter_le _ _) (by rw [List.length_take]; omega)
              have hRl : ((F.take i).filter (fun s => decide (keyP s ≠ keyP fx))).length ≤ i := Nat.le_trans (List.length_filter_le _ _) (by rw [List.length_take]; omega)
              obtain ⟨G, hG⟩ : ∃ G, (F.take i).filter (fun s => decide (keyP s = keyP fx)) = G := ⟨_, rfl⟩
              obtain ⟨R, hR⟩ : ∃ R, (F.take i).filter (fun s => decide (keyP s ≠ keyP fx)) = R := ⟨_, rfl⟩
              rw [hG] at HG HXG HNE hGl ⊢
              rw [hR] at HT HXR HNE hRl ⊢
              clear hG hR
              have HRr := hide (show ERow wr w.heap.size (.slice (some ⟨gf, 0, none⟩) F.length cf) F by rw [HNF.out]; exact HR.out.below HE.out)
              have HQ := hide (Below.refl wr.heap.size wr)
              have zz := fun wx (h : Below wr.heap.size wr wx) => z43 ((HR.out.below HE.out).below h) HNF.out hfi HFX.out
              have zS := zz _ (Below.refl _ _).drew
              clear hfi
              by_cases hkk : keyP fi = keyP fx
              · have hkb : decide (keyP fi = keyP fx) = true := by simpa using hkk
                replace HXG := hide (show (F.take (i + 1)).filter (fun s => decide (keyP s = keyP fx)) = G ++ [fi] by rw [HXG.out, if_pos (by simp [hkk])])
                replace HXR := hide (show (F.take (i + 1)).filter (fun s => decide (keyP s ≠ keyP fx)) = R by rw [HXR.out, if_neg (by simp [hkk]), List.append_nil])
                clear hkk
                go_upto_region 50 with fail
                refine wp_region_held_drew (S := fun w' => RA w' gf (i * 9) (Ev fi) ∧ RA w' gf (x * 9) (Ev fx)) (by kernel_rfl) zS (fun hHeld => ?_)
                refine wpAnyH_take (i := 0) (v := ?_) rfl (by kernel_rfl) (by kernel_rfl) (by kernel_rfl) (fun _ _ _ h => h) (Or.inl ⟨by rfl, ?_⟩) (by assumption) ?_
                rotate_left
                · (intro w hSw; (try dsimp only at hSw); go_simp; try (with_reducible rfl))
                try simp only [Act.put, List.getElem_toArray, List.getElem_cons_zero, List.getElem_cons_succ, List.setIfInBounds_toArray, List.set_cons_zero, List.set_cons_succ]
                refine wpAnyH_take (i := 1) (v := ?_) rfl (by kernel_rfl) (by kernel_rfl) (by kernel_rfl) (fun _ _ _ h => h) (Or.inl ⟨by rfl, ?_⟩) (by assumption) ?_
                rotate_left
                · (intro w hSw; (try dsimp only at hSw); go_simp; try (with_reducible rfl))
                try simp only [Act.put, List.getElem_toArray, List.getElem_cons_zero, List.getElem_cons_succ, List.setIfInBounds_toArray, List.set_cons_zero, List.set_cons_succ]
                refine wpAnyH_take (i := 2) (v := ?_) rfl (by kernel_rfl) (by kernel_rfl) (by kernel_rfl) (fun _ _ _ h => h) (Or.inl ⟨by rfl, ?_⟩) (by assumption) ?_
                rotate_left
                · (intro w hSw; (try dsimp only at hSw); go_simp; try (with_reducible rfl))
                try simp only [Act.put, List.getElem_toArray, List.getElem_cons_zero, List.getElem_cons_succ, List.setIfInBounds_toArray, List.set_cons_zero, List.set_cons_succ]
                refine wpAnyH_take (i := 3) (v := ?_) rfl (by kernel_rfl) (by kernel_rfl) (by kernel_rfl) (fun _ _ _ h => h) (Or.inl ⟨by rfl, ?_⟩) (by assumption) ?_
                rotate_left
                · (intro w hSw; (try dsimp only at hSw); ((obtain ⟨z0, z1, z2, z3, z4, z5, z6, z7, z8⟩ := hSw.1.ee)); go_simp; try (with_reducible rfl))
                try simp only [Act.put, List.getElem_toArray, List.getElem_cons_zero, List.getElem_cons_succ, List.setIfInBounds_toArray, List.set_cons_zero, List.set_cons_succ]
                refine wpAnyH_take (i := 5) (v := ?_) rfl (by kernel_rfl) (by kernel_rfl) (by kernel_rfl) (fun _ _ _ h => h) (Or.inl ⟨by rfl, ?_⟩) (by assumption) ?_
                rotate_left
                · (intro w hSw; (try dsimp only at hSw); go_simp; try (with_reducible rfl))
                try simp only [Act.put, List.getElem_toArray, List.getElem_cons_zero, List.getElem_cons_succ, List.setIfInBounds_toArray, List.set_cons_zero, List.set_cons_succ]
                refine wpAnyH_take (i := 6) (v := ?_) rfl (by kernel_rfl) (by kernel_rfl) (by kernel_rfl) (fun _ _ _ h => h) (Or.inl ⟨by rfl, ?_⟩) (by assumption) ?_
                rotate_left
                · (intro w hSw; (try dsimp only at hSw); go_simp; try (with_reducible rfl))
                try simp only [Act.put, List.getElem_toArray, List.getElem_cons_zero, List.getElem_cons_succ, List.setIfInBounds_toArray, List.set_cons_zero, List.set_cons_succ]
                refine wpAnyH_take (i := 7) (v := ?_) rfl (by kernel_rfl) (by kernel_rfl) (by kernel_rfl) (fun _ _ _ h => h) (Or.inl ⟨by rfl, ?_⟩) (by assumption) ?_
                rotate_left
                · (intro w hSw; (try dsimp only at hSw); go_simp; try (with_reducible rfl))
                try simp only [Act.put, List.getElem_toArray, List.getElem_cons_zero, List.getElem_cons_succ, List.setIfInBounds_toArray, List.set_cons_zero, List.set_cons_succ]
                refine wpAnyH_take (i := 8) (v := ?_) rfl (by kernel_rfl) (by kernel_rfl) (by kernel_rfl) (fun _ _ _ h => h) (Or.inl ⟨by rfl, ?_⟩) (by assumption) ?_
                rotate_left
                · (intro w hSw; (try dsimp only at hSw); ((obtain ⟨z0, z1, z2, z3, z4, z5, z6, z7, z8⟩ := hSw.2.ee)); go_simp; try (with_reducible rfl))
                try simp only [Act.put, List.getElem_toArray, List.getElem_cons_zero, List.getElem_cons_succ, List.setIfInBounds_toArray, List.set_cons_zero, List.set_cons_succ]
                refine wpAnyH_ready (rs := [4]) (by kernel_rfl) (by simp) ?_
                refine (AllReadyH.cons rfl (fun K hK => ?_) AllReadyH.nil)
                · refine step_call rfl 66 #[.agg #[.int .i64 fi.tg, .int .i64 fi.sk, .int .i64 fi.tr.num, .int .i64 fi.tr.x, .int .i64 fi.tr.y, .int .i64 fi.tr.co, .int .i64 fi.tr.sp, .int .i64 fi.tr.st, .int .i64 fi.tr.ag]] (by simp [go_sem]) (key_any _ fi) ?_
                  rintro e' w3 ⟨rfl, b3⟩
                  replace b3 := of_drew b3
                  have HQ3 := hide (lec HQ.out b3)
                  have zS3 := zz _ HQ3.out
                  clear b3
                  refine ⟨_, rfl, ?_⟩
                  refine hK.out _ _ ?_ (fun hHeld => ?_)
                  · (first | with_reducible exact zS | with_reducible exact zS3 | with_reducible exact zS4)
                  clear hK K
                  try simp only [Act.put, List.getElem_toArray, List.getElem_cons_zero, List.getElem_cons_succ, List.setIfInBounds_toArray, List.set_cons_zero, List.set_cons_succ]
                  refine wpAnyH_ready (rs := [9]) (by kernel_rfl) (by simp) ?_
                  refine (AllReadyH.cons rfl (fun K hK => ?_) AllReadyH.nil)
                  · refine step_call rfl 66 #[.agg #[.int .i64 fx.tg, .int .i64 fx.sk, .int .i64 fx.tr.num, .int .i64 fx.tr.x, .int .i64 fx.tr.y, .int .i64 fx.tr.co, .int .i64 fx.tr.sp, .int .i64 fx.tr.st, .int .i64 fx.tr.ag]] (by simp [go_sem]) (key_any _ fx) ?_
                    rintro e' w4 ⟨rfl, b4⟩
                    have HQ4 := hide (lec HQ3.out b4)
                    have zS4 := zz _ HQ4.out
                    clear b4
                    refine ⟨_, rfl, ?_⟩
                    refine hK.out _ _ ?_ (fun hHeld => ?_)
                    · (first | with_reducible exact zS | with_reducible exact zS3 | with_reducible exact zS4)
                    clear hK K
                    try simp only [Act.put, List.getElem_toArray, List.getElem_cons_zero, List.getElem_cons_succ, List.setIfInBounds_toArray, List.set_cons_zero, List.set_cons_succ]
                    refine wpAnyH_take (i := 10) (v := ?_) rfl (by kernel_rfl) (by kernel_rfl) (by kernel_rfl) (fun _ _ _ h => h) (Or.inl ⟨by rfl, ?_⟩) (by assumption) ?_
                    rotate_left
                    · (intro w hSw; (try dsimp only at hSw); ((have zq := eq135 w fi fx HOI.out HOX.out)); go_simp; try (with_reducible rfl))
                    try simp only [Act.put, List.getElem_toArray, List.getElem_cons_zero, List.getElem_cons_succ, List.setIfInBounds_toArray, List.set_cons_zero, List.set_cons_succ]
                    refine wpAnyH_done (by kernel_rfl) ?_ _
                    clear zS zS3 zS4 zz
                    have HG4 := hide (HG.out.below HQ4.out)
                    have HT4 := hide (HT.out.below HQ4.out)
                    have HE4 := hide (lec HE.out HQ4.out)
                    have HEA := hide (lec HE4.out (be1 w4 (.cells #[.int .i64 fi.tg, .int .i64 fi.sk, .int .i64 fi.tr.num, .int .i64 fi.tr.x, .int .i64 fi.tr.y, .int .i64 fi.tr.co, .int .i64 fi.tr.sp, .int .i64 fi.tr.st, .int .i64 fi.tr.ag] 113)))
                    have HSZ := hide HEA.out.size
                    obtain ⟨q0, q1, q2, q3, q4, q5, q6, q7, q8⟩ := ((HRr.out.below HQ4.out).at (L := F) (i := i) HFI.out).ee
                    clear HQ HQ3 HQ4 HG HT
                    have HR3 := hide (HG4.out.below (be1 w4 (.cells #[.int .i64 fi.tg, .int .i64 fi.sk, .int .i64 fi.tr.num, .int .i64 fi.tr.x, .int .i64 fi.tr.y, .int .i64 fi.tr.co, .int .i64 fi.tr.sp, .int .i64 fi.tr.st, .int .i64 fi.tr.ag] 113)))
                    have HNC := hide (show ∀ (j : Nat) (u : Value), (Ev fi)[j]? = some u → (w4.alloc (.cells #[.int .i64 fi.tg, .int .i64 fi.sk, .int .i64 fi.tr.num, .int .i64 fi.tr.x, .int .i64 fi.tr.y, .int .i64 fi.tr.co, .int .i64 fi.tr.sp, .int .i64 fi.tr.st, .int .i64 fi.tr.ag] 113)).cell? ((⟨w4.heap.size, 0, none⟩ : Addr).add j) = some u from fun j u hj => new_cells _ (Ev fi) 113 j u hj)
                    have HVV := hide (Ev.one fi)
                    have HMX := hide (show G.length + 1 ≤ maxLen ∧ (G.length + 1) * 72 ≤ 140737488355328 by unfold maxLen; omega)
                    go_wp2_with (at_builtin; go_loud (refine wpList_append_own_at _ rfl (.tmp 269) (.tmp 274) 101 rfl wj.heap.size 113 i0 _ 9 72 Try.underlying101 HI.out.1 HI.out.2.1 HI.out.2.2.1 HI.out.2.2.2 rfl (by decide) (.slice ag G.length cg) G.length (G.flatMap Ev) rfl HR3.out _ 1 1 (Ev fi) rfl rfl HNC.out HVV.out HMX.out.1 HMX.out.2 HSZ.out ?_; intro v' w5 hown hgrow hnil hat; obtain ⟨g2, c2, rfl⟩ := own_some hown (by omega); have HOWN := hide hown; have HGROW := hide hgrow; have HAT := hide hat; clear hown hgrow hnil hat))
                    clear HNC HVV HMX
                    have HOB := hide ((HT4.out.below (be1 w4 (.cells #[.int .i64 fi.tg, .int .i64 fi.sk, .int .i64 fi.tr.num, .int .i64 fi.tr.x, .int .i64 fi.tr.y, .int .i64 fi.tr.co, .int .i64 fi.tr.sp, .int .i64 fi.tr.st, .int .i64 fi.tr.ag] 113))).keep (Ex.ofGrown (S := fun k => (Value.slice ag G.length cg).ownBlock = some k) HGROW.out (fun k e => e.symm)) (fun g e1 e2 => HNE.out g e2 e1))
                    have HE5 := hide (bel_grownE HEA.out HR3.out HGROW.out)
                    have HR5 := hide (ERow.snoc HOWN.out)
                    have HN5 := hide (show ∀ g, (Value.slice (some ⟨g2, 0, none⟩) (G.length + 1) c2).ownBlock = some g → (Value.slice ar R.length cr).ownBlock ≠ some g from fun g e1 e2 => by
                      rcases HAT.out with z | z
                      · rw [z] at e1; exact HNE.out g e1 e2
                      · rw [z] at e1
                        have e3 : (w4.alloc (.cells #[.int .i64 fi.tg, .int .i64 fi.sk, .int .i64 fi.tr.num, .int .i64 fi.tr.x, .int .i64 fi.tr.y, .int .i64 fi.tr.co, .int .i64 fi.tr.sp, .int .i64 fi.tr.st, .int .i64 fi.tr.ag] 113)).heap.size = g := Option.some.inj e1
                        have := (HT4.out.own e2).2
                        simp at e3
                        omega)
                    clear HR3 HGROW HOWN HAT HEA HSZ q0 q1 q2 q3 q4 q5 q6 q7 q8
                    go_wp2
                    first | refine HJ9.out _ _ ?rel (by kernel_rfl) rfl ?measure | refine HJ8.out _ _ ?rel (by kernel_rfl) rfl ?measure | refine HJ7.out _ _ ?rel (by kernel_rfl) rfl ?measure
                    case rel => (try dsimp only [rdA, getL]); (exact ⟨i + 1, some ⟨g2, 0, none⟩, c2, ar, cr, by omega, by simp, by rw [HXG.out, List.length_append]; rfl, by rw [HXR.out], by rw [HXG.out, List.length_append]; exact HR5.out, by rw [HXR.out]; exact HOB.out, hide (by rw [HXG.out, HXR.out, List.length_append]; exact HN5.out), HE5.out⟩)
                    case measure => (try dsimp only [rdA, getL]); (simp [intOf]; omega)
              · have hkb : decide (keyP fi = keyP fx) = false := by simpa using hkk
                replace HXG := hide (show (F.take (i + 1)).filter (fun s => decide (keyP s = keyP fx)) = G by rw [HXG.out, if_neg (by simp [hkk]), List.append_nil])
                replace HXR := hide (show (F.take (i + 1)).filter (fun s => decide (keyP s ≠ keyP fx)) = R ++ [fi] by rw [HXR.out, if_pos (by simp [hkk])])
                clear hkk
                go_upto_region 50 with fail
                refine wp_region_held_drew (S := fun w' => RA w' gf (i * 9) (Ev fi) ∧ RA w' gf (x * 9) (Ev fx)) (by kernel_rfl) zS (fun hHeld => ?_)
                refine wpAnyH_take (i := 0) (v := ?_) rfl (by kernel_rfl) (by kernel_rfl) (by kernel_rfl) (fun _ _ _ h => h) (Or.inl ⟨by rfl, ?_⟩) (by assumption) ?_
                rotate_left
                · (intro w hSw; (try dsimp only at hSw); go_simp; try (with_reducible rfl))
                try simp only [Act.put, List.getElem_toArray, List.getElem_cons_zero, List.getElem_cons_succ, List.setIfInBounds_toArray, List.set_cons_zero, List.set_cons_succ]
                refine wpAnyH_take (i := 1) (v := ?_) rfl (by kernel_rfl) (by kernel_rfl) (by kernel_rfl) (fun _ _ _ h => h) (Or.inl ⟨by rfl, ?_⟩) (by assumption) ?_
                rotate_left
                · (intro w hSw; (try dsimp only at hSw); go_simp; try (with_reducible rfl))
                try simp only [Act.put, List.getElem_toArray, List.getElem_cons_zero, List.getElem_cons_succ, List.setIfInBounds_toArray, List.set_cons_zero, List.set_cons_succ]
                refine wpAnyH_take (i := 2) (v := ?_) rfl (by kernel_rfl) (by kernel_rfl) (by kernel_rfl) (fun _ _ _ h => h) (Or.inl ⟨by rfl, ?_⟩) (by assumption) ?_
                rotate_left
                · (intro w hSw; (try dsimp only at hSw); go_simp; try (with_reducible rfl))
                try simp only [Act.put, List.getElem_toArray, List.getElem_cons_zero, List.getElem_cons_succ, List.setIfInBounds_toArray, List.set_cons_zero, List.set_cons_succ]
                refine wpAnyH_take (i := 3) (v := ?_) rfl (by kernel_rfl) (by kernel_rfl) (by kernel_rfl) (fun _ _ _ h => h) (Or.inl ⟨by rfl, ?_⟩) (by assumption) ?_
                rotate_left
                · (intro w hSw; (try dsimp only at hSw); ((obtain ⟨z0, z1, z2, z3, z4, z5, z6, z7, z8⟩ := hSw.1.ee)); go_simp; try (with_reducible rfl))
                try simp only [Act.put, List.getElem_toArray, List.getElem_cons_zero, List.getElem_cons_succ, List.setIfInBounds_toArray, List.set_cons_zero, List.set_cons_succ]
                refine wpAnyH_take (i := 5) (v := ?_) rfl (by kernel_rfl) (by kernel_rfl) (by kernel_rfl) (fun _ _ _ h => h) (Or.inl ⟨by rfl, ?_⟩) (by assumption) ?_
                rotate_left
                · (intro w hSw; (try dsimp only at hSw); go_simp; try (with_reducible rfl))
                try simp only [Act.put, List.getElem_toArray, List.getElem_cons_zero, List.getElem_cons_succ, List.setIfInBounds_toArray, List.set_cons_zero, List.set_cons_succ]
                refine wpAnyH_take (i := 6) (v := ?_) rfl (by kernel_rfl) (by kernel_rfl) (by kernel_rfl) (fun _ _ _ h => h) (Or.inl ⟨by rfl, ?_⟩) (by assumption) ?_
                rotate_left
                · (intro w hSw; (try dsimp only at hSw); go_simp; try (with_reducible rfl))
                try simp only [Act.put, List.getElem_toArray, List.getElem_cons_zero, List.getElem_cons_succ, List.setIfInBounds_toArray, List.set_cons_zero, List.set_cons_succ]
                refine wpAnyH_take (i := 7) (v := ?_) rfl (by kernel_rfl) (by kernel_rfl) (by kernel_rfl) (fun _ _ _ h => h) (Or.inl ⟨by rfl, ?_⟩) (by assumption) ?_
                rotate_left
                · (intro w hSw; (try dsimp only at hSw); go_simp; try (with_reducible rfl))
                try simp only [Act.put, List.getElem_toArray, List.getElem_cons_zero, List.getElem_cons_succ, List.setIfInBounds_toArray, List.set_cons_zero, List.set_cons_succ]
                refine wpAnyH_take (i := 8) (v := ?_) rfl (by kernel_rfl) (by kernel_rfl) (by kernel_rfl) (fun _ _ _ h => h) (Or.inl ⟨by rfl, ?_⟩) (by assumption) ?_
                rotate_left
                · (intro w hSw; (try dsimp only at hSw); ((obtain ⟨z0, z1, z2, z3, z4, z5, z6, z7, z8⟩ := hSw.2.ee)); go_simp; try (with_reducible rfl))
                try simp only [Act.put, List.getElem_toArray, List.getElem_cons_zero, List.getElem_cons_succ, List.setIfInBounds_toArray, List.set_cons_zero, List.set_cons_succ]
                refine wpAnyH_ready (rs := [4]) (by kernel_rfl) (by simp) ?_
                refine (AllReadyH.cons rfl (fun K hK => ?_) AllReadyH.nil)
                · refine step_call rfl 66 #[.agg #[.int .i64 fi.tg, .int .i64 fi.sk, .int .i64 fi.tr.num, .int .i64 fi.tr.x, .int .i64 fi.tr.y, .int .i64 fi.tr.co, .int .i64 fi.tr.sp, .int .i64 fi.tr.st, .int .i64 fi.tr.ag]] (by simp [go_sem]) (key_any _ fi) ?_
                  rintro e' w3 ⟨rfl, b3⟩
                  replace b3 := of_drew b3
                  have HQ3 := hide (lec HQ.out b3)
                  have zS3 := zz _ HQ3.out
                  clear b3
                  refine ⟨_, rfl, ?_⟩
                  refine hK.out _ _ ?_ (fun hHeld => ?_)
                  · (first | with_reducible exact zS | with_reducible exact zS3 | with_reducible exact zS4)
                  clear hK K
                  try simp only [Act.put, List.getElem_toArray, List.getElem_cons_zero, List.getElem_cons_succ, List.setIfInBounds_toArray, List.set_cons_zero, List.set_cons_succ]
                  refine wpAnyH_ready (rs := [9]) (by kernel_rfl) (by simp) ?_
                  refine (AllReadyH.cons rfl (fun K hK => ?_) AllReadyH.nil)
                  · refine step_call rfl 66 #[.agg #[.int .i64 fx.tg, .int .i64 fx.sk, .int .i64 fx.tr.num, .int .i64 fx.tr.x, .int .i64 fx.tr.y, .int .i64 fx.tr.co, .int .i64 fx.tr.sp, .int .i64 fx.tr.st, .int .i64 fx.tr.ag]] (by simp [go_sem]) (key_any _ fx) ?_
                    rintro e' w4 ⟨rfl, b4⟩
                    have HQ4 := hide (lec HQ3.out b4)
                    have zS4 := zz _ HQ4.out
                    clear b4
                    refine ⟨_, rfl, ?_⟩
                    refine hK.out _ _ ?_ (fun hHeld => ?_)
                    · (first | with_reducible exact zS | with_reducible exact zS3 | with_reducible exact zS4)
                    clear hK K
                    try simp only [Act.put, List.getElem_toArray, List.getElem_cons_zero, List.getElem_cons_succ, List.setIfInBounds_toArray, List.set_cons_zero, List.set_cons_succ]
                    refine wpAnyH_take (i := 10) (v := ?_) rfl (by kernel_rfl) (by kernel_rfl) (by kernel_rfl) (fun _ _ _ h => h) (Or.inl ⟨by rfl, ?_⟩) (by assumption) ?_
                    rotate_left
                    · (intro w hSw; (try dsimp only at hSw); ((have zq := eq135 w fi fx HOI.out HOX.out)); go_simp; try (with_reducible rfl))
                    try simp only [Act.put, List.getElem_toArray, List.getElem_cons_zero, List.getElem_cons_succ, List.setIfInBounds_toArray, List.set_cons_zero, List.set_cons_succ]
                    refine wpAnyH_done (by kernel_rfl) ?_ _
                    clear zS zS3 zS4 zz
                    have HG4 := hide (HG.out.below HQ4.out)
                    have HT4 := hide (HT.out.below HQ4.out)
                    have HE4 := hide (lec HE.out HQ4.out)
                    have HEA := hide (lec HE4.out (be1 w4 (.cells #[.int .i64 fi.tg, .int .i64 fi.sk, .int .i64 fi.tr.num, .int .i64 fi.tr.x, .int .i64 fi.tr.y, .int .i64 fi.tr.co, .int .i64 fi.tr.sp, .int .i64 fi.tr.st, .int .i64 fi.tr.ag] 113)))
                    have HSZ := hide HEA.out.size
                    obtain ⟨q0, q1, q2, q3, q4, q5, q6, q7, q8⟩ := ((HRr.out.below HQ4.out).at (L := F) (i := i) HFI.out).ee
                    clear HQ HQ3 HQ4 HG HT
                    have HR3 := hide (HT4.out.below (be1 w4 (.cells #[.int .i64 fi.tg, .int .i64 fi.sk, .int .i64 fi.tr.num, .int .i64 fi.tr.x, .int .i64 fi.tr.y, .int .i64 fi.tr.co, .int .i64 fi.tr.sp, .int .i64 fi.tr.st, .int .i64 fi.tr.ag] 113)))
                    have HNC := hide (show ∀ (j : Nat) (u : Value), (Ev fi)[j]? = some u → (w4.alloc (.cells #[.int .i64 fi.tg, .int .i64 fi.sk, .int .i64 fi.tr.num, .int .i64 fi.tr.x, .int .i64 fi.tr.y, .int .i64 fi.tr.co, .int .i64 fi.tr.sp, .int .i64 fi.tr.st, .int .i64 fi.tr.ag] 113)).cell? ((⟨w4.heap.size, 0, none⟩ : Addr).add j) = some u from fun j u hj => new_cells _ (Ev fi) 113 j u hj)
                    have HVV := hide (Ev.one fi)
                    have HMX := hide (show R.length + 1 ≤ maxLen ∧ (R.length + 1) * 72 ≤ 140737488355328 by unfold maxLen; omega)
                    go_wp2_with (at_builtin; go_loud (refine wpList_append_own_at _ rfl (.tmp 276) (.tmp 281) 101 rfl wj.heap.size 113 i0 _ 9 72 Try.underlying101 HI.out.1 HI.out.2.1 HI.out.2.2.1 HI.out.2.2.2 rfl (by decide) (.slice ar R.length cr) R.length (R.flatMap Ev) rfl HR3.out _ 1 1 (Ev fi) rfl rfl HNC.out HVV.out HMX.out.1 HMX.out.2 HSZ.out ?_; intro v' w5 hown hgrow hnil hat; obtain ⟨g2, c2, rfl⟩ := own_some hown (by omega); have HOWN := hide hown; have HGROW := hide hgrow; have HAT := hide hat; clear hown hgrow hnil hat))
                    clear HNC HVV HMX
                    have HOB := hide ((HG4.out.below (be1 w4 (.cells #[.int .i64 fi.tg, .int .i64 fi.sk, .int .i64 fi.tr.num, .int .i64 fi.tr.x, .int .i64 fi.tr.y, .int .i64 fi.tr.co, .int .i64 fi.tr.sp, .int .i64 fi.tr.st, .int .i64 fi.tr.ag] 113))).keep (Ex.ofGrown (S := fun k => (Value.slice ar R.length cr).ownBlock = some k) HGROW.out (fun k e => e.symm)) (fun g e1 e2 => HNE.out g e1 e2))
                    have HE5 := hide (bel_grownE HEA.out HR3.out HGROW.out)
                    have HR5 := hide (ERow.snoc HOWN.out)
                    have HN5 := hide (show ∀ g, (Value.slice (some ⟨g2, 0, none⟩) (R.length + 1) c2).ownBlock = some g → (Value.slice ag G.length cg).ownBlock ≠ some g from fun g e1 e2 => by
                      rcases HAT.out with z | z
                      · rw [z] at e1; exact HNE.out g e2 e1
                      · rw [z] at e1
                        have e3 : (w4.alloc (.cells #[.int .i64 fi.tg, .int .i64 fi.sk, .int .i64 fi.tr.num, .int .i64 fi.tr.x, .int .i64 fi.tr.y, .int .i64 fi.tr.co, .int .i64 fi.tr.sp, .int .i64 fi.tr.st, .int .i64 fi.tr.ag] 113)).heap.size = g := Option.some.inj e1
                        have := (HG4.out.own e2).2
                        simp at e3
                        omega)
                    clear HR3 HGROW HOWN HAT HEA HSZ q0 q1 q2 q3 q4 q5 q6 q7 q8
                    go_wp2
                    first | refine HJ9.out _ _ ?rel (by kernel_rfl) rfl ?measure | refine HJ8.out _ _ ?rel (by kernel_rfl) rfl ?measure | refine HJ7.out _ _ ?rel (by kernel_rfl) rfl ?measure
                    case rel => (try dsimp only [rdA, getL]); (exact ⟨i + 1, ag, cg, some ⟨g2, 0, none⟩, c2, by omega, by simp, by rw [HXG.out], by rw [HXR.out, List.length_append]; rfl, by rw [HXG.out]; exact HOB.out, by rw [HXR.out, List.length_append]; exact HR5.out, hide (by rw [HXG.out, HXR.out, List.length_append]; exact fun g e1 e2 => HN5.out g e2 e1), HE5.out⟩)
                    case measure => (try dsimp only [rdA, getL]); (simp [intOf]; omega)
            · have hini : ¬ (i : Int) < (nF : Int) := by omega
              rw [List.take_of_length_le (by rw [HNF.out]; omega)] at HG HT HNE ⊢
              have HLE := hide (filt_sum (V := F) (k := keyP fx))
              have HGP := hide (filt_pos (V := F) (a := fx) HXM.out)
              have HGF := hide (show ∀ s ∈ F.filter (fun s => decide (keyP s = keyP fx)), s ∈ F from fun s hs => (List.mem_filter.1 hs).1)
              have HRF := hide (show ∀ s ∈ F.filter (fun s => decide (keyP s ≠ keyP fx)), s ∈ F from fun s hs => (List.mem_filter.1 hs).1)
              have HBIG := hide (show 64 < (F.filter (fun s => decide (keyP s = keyP fx))).length → ∀ V' n', MAdm (F.filter (fun s => decide (keyP s ≠ keyP fx))) V nc V' n' → MAdm F V nc V' n' from fun h V' n' r => MAdm.big F V V' nc n' fx HXM.out HMI2.out h r)
              have HGRP := hide (show (F.filter (fun s => decide (keyP s = keyP fx))).length ≤ 64 → ∀ V1 V' n', MRoom (F.filter (fun s => decide (keyP s = keyP fx))).length V V1 → MAdm (F.filter (fun s => decide (keyP s ≠ keyP fx))) (V1 ++ numL (F.filter (fun s => decide (keyP s = keyP fx))) nc) (nc + (F.filter (fun s => decide (keyP s = keyP fx))).length) V' n' → MAdm F V nc V' n' from fun h V1 V' n' r1 r2 => MAdm.grp F V V1 V' nc n' fx HXM.out HMI2.out h r1 r2)
              obtain ⟨G, hG⟩ : ∃ G, F.filter (fun s => decide (keyP s = keyP fx)) = G := ⟨_, rfl⟩
              obtain ⟨R, hR⟩ : ∃ R, F.filter (fun s => decide (keyP s ≠ keyP fx)) = R := ⟨_, rfl⟩
              rw [hG] at HG HNE HLE HGP HGF HBIG HGRP ⊢
              rw [hR] at HT HNE HLE HRF HBIG HGRP ⊢
              clear hG hR
              obtain ⟨ng, hng⟩ : ∃ x, G.length = x := ⟨_, rfl⟩
              obtain ⟨nR, hnR⟩ : ∃ x, R.length = x := ⟨_, rfl⟩
              rw [hng] at HG HNE HLE HGP HBIG HGRP ⊢
              rw [hnR] at HT HNE HLE ⊢
              have HNG := hide hng
              have HNR := hide hnR
              have hsum : ng + nR = nF := by rw [HLE.out, HNF.out]
              have hgp : 0 < ng := HGP.out
              have hRlt : nR < nF := by omega
              clear hng hnR HLE HGP hin
              replace HVr := hide (HVr.out.below HE.out)
              replace HFr := hide (HFr.out.bel HMB.out HE.out)
              have HNR2 := hide (show nx ≤ nc ∧ nc + (ng : Int) + (nR : Int) ≤ nx + 112 by omega)
              obtain ⟨g0, hg0⟩ : ∃ s, G[0]? = some s := ⟨_, List.getElem?_eq_getElem (by have := HNG.out; omega)⟩
              obtain ⟨gg, eg, -⟩ := HG.out.get HNG.out.symm hg0
              subst eg
              clear hg0
              have HNE0 := HNE
              have HGL0 := hide (show ∀ g, (Value.slice (some ⟨gg, 0, none⟩) ng cg).ownBlock = some g → wj.heap.size ≤ g ∧ g < wr.heap.size from fun g e => HG.out.own e)
              have HTL0 := hide (show ∀ g, (Value.slice ar nR cr).ownBlock = some g → wj.heap.size ≤ g ∧ g < wr.heap.size from fun g e => HT.out.own e)
              by_cases hbig : 64 < ng
              · have hbb : decide ((64 : Int) < (ng : Int)) = true := by simp; omega
                have HCN := hide (show ∀ V' n', MAdm R V nc V' n' → MAdm F0 V0 nx V' n' from fun V' n' h => HC.out V' n' (HBIG.out hbig V' n' h))
                have HTw := hide (show ERow wr w.heap.size (.slice ar nR cr) R from own_base HT.out HWI.out)
                rw [← HNR.out] at HTw hRlt hsum ⊢
                go_wp2
                first | refine HJ9.out _ _ ?rel (by kernel_rfl) rfl ?measure | refine HJ8.out _ _ ?rel (by kernel_rfl) rfl ?measure | refine HJ7.out _ _ ?rel (by kernel_rfl) rfl ?measure
                case rel => (try dsimp only [rdA, getL]); (exact ⟨R, V, nc, ar, cr, av, cv, rfl, HTw.out, HVr.out, HFr.out, HCN, hide (fun s hs => HFO.out s (HRF.out s hs)), HVO, by omega, hVl, by omega⟩)
                case measure => (try dsimp only [rdA, getL]); (simp [lenV]; have := HNF.out; omega)
              · have hbb : decide ((64 : Int) < (ng : Int)) = false := by simp; omega
                replace HGRP := hide (show ∀ V1 V' n', MRoom ng V V1 → MAdm R (V1 ++ numL G nc) (nc + (ng : Int)) V' n' → MAdm F V nc V' n' from fun V1 V' n' r1 r2 => HGRP.out (by omega) V1 V' n' r1 r2)
                have HNOv := hide (show ∀ g, (Value.slice av V.length cv).ownBlock = some g → (Value.slice (some ⟨gg, 0, none⟩) ng cg).ownBlock ≠ some g ∧ (Value.slice ar nR cr).ownBlock ≠ some g from fun g e => by
                  have h1 := HVL.out g e
                  exact ⟨fun e2 => by have := (HGL0.out g e2).1; omega, fun e2 => by have := (HTL0.out g e2).1; omega⟩)
                clear HBIG HVL HE HNE
                go_upto_region 55 with fail
                have HGW0 := hide (show ∀ g, (Value.slice (some ⟨gg, 0, none⟩) ng cg).ownBlock = some g → g < wr.heap.size from fun g e => (HGL0.out g e).2)
                have HTW0 := hide (show ∀ g, (Value.slice ar nR cr).ownBlock = some g → g < wr.heap.size from fun g e => (HTL0.out g e).2)
                clear HGL0 HTL0
                go_wp2
                refine wp_loop_mix [none, none, none, none, none, none, none, none, none, none, none, none, none, none, none, none, none, none, none, none, none, none, none, none, none, none, none, none, some 28, some 29, some 30, some 31, some 32, none, none, none, none, none, none, none, none, none, none, none, none, none, none, none, none, none, none, none, none, none, none, none, none, none, none, none, none, none, none, none, none, none, none, none, none, none, none, none, none, none, none, none, none, none, none, none, none, none, none, none, none, none, none, none, none, none, none, none, none, none, none, none, none, none, none, none, none, none, none, none, none, none, none, none, none, none, none, none, none, none, none, none, none, none, none, none, none, none, none, none, none, none, none, none, none, none, none, none, none, none, none, none, none, none, none, none, none, none, none, none, none, none, none, none, none, none, none, none, none, none, none, none, none, none, none, none, none, none, none, none, none, none, none, none, none, none, none, none, none, none, none, none, none, none, none, none, none, none, none, none, none, none, none, none, none, none, none, none, none, none, none, none, none, none, none, none, none, none, none, none, none, none, none, none, none, none, none, none, none, none, none, none, none, none, none, none, none, none, none, none, none, none, none, none, none, none, none, none, none, none, none, none, none, none, none, none, none, none, none, none, none, none, none, none, none, none, none, none, none, none, none, none, none, none, none, none, none, none, none, none, none, none, none, none, none, none, none, none, none, none, none, none, none, none, none, none, none, none, none, none, none, none, none, some 287, some 288, some 289, some 290, some 291, some 292, some 293, some 294, some 295, some 296, some 297, some 298, some 299, some 300, some 301, some 302, some 303, some 304, some 305, some 306, some 307, some 308, some 309, some 310, some 311, some 312, some 313, some 314, some 315, some 316, some 317, some 318, some 319, some 320, some 321, some 322, some 323, some 324, some 325, some 326, some 327, some 328, some 329, some 330, some 331, some 332, some 333, some 334, some 335, some 336, some 337, some 338, some 339, some 340, some 341, some 342, some 343, some 344, some 345, some 346, some 347, some 348, some 349, some 350, some 351, some 352, some 353, some 354, some 355, some 356, some 357, some 358, some 359, some 360, some 361, some 362, some 363, none, none, none, none, none, none, none, none, none, none, none, none, none, none, none, none, none, none, none, none, none, none, none, none, none, none, none, none, none, none, none, none, none, none, none] (by kernel_rfl) (fun us wy => (fun _ _ _ _ _ wy => ∃ (V1 : List Slt) (av : Option Addr) (cv : Nat), VA wy mb o w.heap.size av V1.length cv V1 nc ∧ ERow wy wj.heap.size (.slice (some ⟨gg, 0, none⟩) ng cg) G ∧ ERow wy wj.heap.size (.slice ar nR cr) R ∧ Fr mb o 2 w wy ∧ Hid (∀ g, (Value.slice av V1.length cv).ownBlock = some g → (Value.slice (some ⟨gg, 0, none⟩) ng cg).ownBlock ≠ some g ∧ (Value.slice ar nR cr).ownBlock ≠ some g) ∧ Hid (∀ V', MRoom ng V1 V' → MRoom ng V V') ∧ Hid (∀ s ∈ V1, SltOk s) ∧ V1.length ≤ 64) (us 28) (us 29) (us 30) (us 31) (us 32) wy) (fun us wy => (fun _ _ _ _ _ wy => lenV ((wy.cell? ⟨mb, o, none⟩).getD undef)) (us 28) (us 29) (us 30) (us 31) (us 32) wy) ?atStart ?round
                case atStart => (dsimp only [getL]; exact ⟨V, av, cv, HVr.out, HG.out, HT.out, HFr.out, HNOv, hide (fun _ h => h), HVO, hVl⟩)
                case round =>
                  intro us wr hrel J10 hJ10
                  dsimp only at hrel hJ10
                  dsimp only [mixF]
                  have HJ10 := hide hJ10
                  clear hJ10
                  clear HVr HG HT HFr HNOv HVO hVl HGW0 HTW0 av cv
                  obtain ⟨V1, av, cv, hva, hg, ht, hfr, HNO, HRM, HVO, hVl⟩ := hrel
                  have HVr := hide hva
                  have HG := hide hg
                  have HT := hide ht
                  have HFr := hide hfr
                  clear hva hg ht hfr
                  have c0 := HVr.out.c0
                  by_cases hfull : 64 < V1.length + ng
                  · have hfb : decide ((64 : Int) < (V1.length : Int) + (ng : Int)) = true := by simp; omega
                    have hfw : IntKind.i64.wrap ((V1.length : Int) + (ng : Int)) = (V1.length : Int) + (ng : Int) := by rw [IntKind.wrap_i64]; omega
                    obtain ⟨n1, hn1⟩ : ∃ x, V1.length = x := ⟨_, rfl⟩
                    rw [hn1] at HVr c0 hfull hVl hfb hfw HNO
                    have HN1 := hide hn1
                    clear hn1
                    have HGW := hide (show ∀ g, (Value.slice (some ⟨gg, 0, none⟩) ng cg).ownBlock = some g → g < wr.heap.size from fun g e => (HG.out.own e).2)
                    have HTW := hide (show ∀ g, (Value.slice ar nR cr).ownBlock = some g → g < wr.heap.size from fun g e => (HT.out.own e).2)
                    have hne : 0 < n1 := by omega
                    obtain ⟨v0, hv0⟩ : ∃ v, V1[0]? = some v := ⟨_, List.getElem?_eq_getElem (by have := HN1.out; omega)⟩
                    obtain ⟨gv, ev, -⟩ := HVr.out.row.get HVr.out.len hv0
                    subst ev
                    clear hv0
                    have HLV := hide (show lenV ((wr.cell? ⟨mb, o, none⟩).getD undef) = n1 by rw [HVr.out.c0]; rfl)
                    generalize hwk : wr = wk at *
                    clear hwk
                    go_upto_region 56 with fail
                    go_wp2
                    refine wp_loop_mix [none, none, none, none, none, none, none, none, none, none, none, none, none, none, none, none, none, none, none, none, none, none, none, none, none, none, none, none, some 28, some 29, none, none, none, none, none, none, none, none, none, none, none, none, none, none, none, none, none, none, none, none, none, none, none, none, none, none, none, none, none, none, none, none, none, none, none, none, none, none, none, none, none, none, none, none, none, none, none, none, none, none, none, none, none, none, none, none, none, none, none, none, none, none, none, none, none, none, none, none, none, none, none, none, none, none, none, none, none, none, none, none, none, none, none, none, none, none, none, none, none, none, none, none, none, none, none, none, none, none, none, none, none, none, none, none, none, none, none, none, none, none, none, none, none, none, none, none, none, none, none, none, none, none, none, none, none, none, none, none, none, none, none, none, none, none, none, none, none, none, none, none, none, none, none, none, none, none, none, none, none, none, none, none, none, none, none, none, none, none, none, none, none, none, none, none, none, none, none, none, none, none, none, none, none, none, none, none, none, none, none, none, none, none, none, none, none, none, none, none, none, none, none, none, none, none, none, none, none, none, none, none, none, none, none, none, none, none, none, none, none, none, none, none, none, none, none, none, none, none, none, none, none, none, none, none, none, none, none, none, none, none, none, none, none, none, none, none, none, none, none, none, none, none, none, none, none, none, none, none, none, none, none, none, none, none, none, none, none, none, none, none, none, none, none, none, none, none, some 296, some 297, some 298, some 299, some 300, some 301, some 302, some 303, some 304, some 305, some 306, some 307, some 308, some 309, some 310, some 311, some 312, some 313, some 314, some 315, some 316, some 317, some 318, some 319, some 320, some 321, some 322, none, none, none, none, none, none, none, none, none, none, none, none, none, none, none, none, none, none, none, none, none, none, none, none, none, none, none, none, none, none, none, none, none, none, none, none, none, none, none, none, none, none, none, none, none, none, none, none, none, none, none, none, none, none, none, none, none, none, none, none, none, none, none, none, none, none, none, none, none, none, none, none, none, none, none, none] (by kernel_rfl) (fun us wy => (fun s28 s29 wy => ∃ (i x : Nat), 1 ≤ i ∧ i ≤ n1 ∧ x < n1 ∧ s29 = .int .i64 i ∧ s28 = .int .i64 x ∧ Hid (∀ (k : Nat) (f fx : Slt), k < i → V1[k]? = some f → V1[x]? = some fx → worseP f.tr fx.tr = false) ∧ Below wk.heap.size wk wy) (us 28) (us 29) wy) (fun us wy => (fun _ s29 _ => n1 - (intOf s29).toNat) (us 28) (us 29) wy) ?atStart ?round
                    case atStart => (dsimp only [getL]; exact ⟨1, 0, by omega, by omega, by omega, rfl, rfl, hide (fun k f fx hk h1 h2 => by obtain rfl : k = 0 := (by omega); rw [h1] at h2; cases h2; exact worse_irr _), Below.refl _ _⟩)
                    case round =>
                      intro us wr hrel J11 hJ11
                      dsimp only at hrel hJ11
                      dsimp only [mixF]
                      generalize us 28 = s28 at hrel hJ11 ⊢
                      generalize us 29 = s29 at hrel hJ11 ⊢
                      have HJ11 := hide hJ11
                      clear hJ11
                      obtain ⟨i, x, hi1, hi, hx, rfl, rfl, HMN, hb⟩ := hrel
                      have HE := hide hb
                      clear hb
                      have c0 := cellKeep HE.out HVr.out.c0
                      by_cases hin : i < n1
                      · have hini : (i : Int) < (n1 : Int) := by omega
                        have hxi : (x : Int) < (n1 : Int) := by omega
                        have hi0' : decide ((i : Int) < 0) = false := by simp
                        have hx0' : decide ((x : Int) < 0) = false := by simp
                        obtain ⟨vi, hvi⟩ : ∃ v, V1[i]? = some v := ⟨_, List.getElem?_eq_getElem (by have := HN1.out; omega)⟩
                        obtain ⟨vx, hvx⟩ : ∃ v, V1[x]? = some v := ⟨_, List.getElem?_eq_getElem (by have := HN1.out; omega)⟩
                        have HQ := hide (Below.refl wr.heap.size wr)
                        have zz := fun wx (h : Below wr.heap.size wr wx) => z60 ((HVr.out.below HE.out).below h) hvi hvx
                        have zS := zz _ (Below.refl _ _).drew
                        by_cases hw : worseP vi.tr vx.tr = true
                        · have hlb : worseP vi.tr vx.tr = true := hw
                          have HMN2 := hide (show ∀ (k : Nat) (f fx : Slt), k < i + 1 → V1[k]? = some f → V1[i]? = some fx → worseP f.tr fx.tr = false from fun k f fx hk h1 h2 => by
                            rw [hvi] at h2; cases h2
                            rcases (by omega : k < i ∨ k = i) with z | rfl
                            · exact worse_up (HMN.out k f vx z h1 hvx) hw
                            · rw [hvi] at h1; cases h1; exact worse_irr _)
                          clear hvi hvx hw
                          go_upto_region 60 with fail
                          clear c0
                          refine wp_region_held_drew (S := fun w' => w'.cell? ⟨mb, o, none⟩ = some (.slice (some ⟨gv, 0, none⟩) n1 cv) ∧ RA w' gv (i * 9) (Ev vi) ∧ RA w' gv (x * 9) (Ev vx)) (by kernel_rfl) zS (fun hHeld => ?_)
                          refine wpAnyH_take (i := 0) (v := ?_) rfl (by kernel_rfl) (by kernel_rfl) (by kernel_rfl) (fun _ _ _ h => h) (Or.inl ⟨by rfl, ?_⟩) (by assumption) ?_
                          rotate_left
                          · (intro w hSw; (try dsimp only at hSw); go_simp; try (with_reducible rfl))
                          try simp only [Act.put, List.getElem_toArray, List.getElem_cons_zero, List.getElem_cons_succ, List.setIfInBounds_toArray, List.set_cons_zero, List.set_cons_succ]
                          refine wpAnyH_take (i := 1) (v := ?_) rfl (by kernel_rfl) (by kernel_rfl) (by kernel_rfl) (fun _ _ _ h => h) (Or.inl ⟨by rfl, ?_⟩) (by assumption) ?_
                          rotate_left
                          · (intro w hSw; (try dsimp only at hSw); go_simp; try (with_reducible rfl))
                          try simp only [Act.put, List.getElem_toArray, List.getElem_cons_zero, List.getElem_cons_succ, List.setIfInBounds_toArray, List.set_cons_zero, List.set_cons_succ]
                          refine wpAnyH_take (i := 2) (v := ?_) rfl (by kernel_rfl) (by kernel_rfl) (by kernel_rfl) (fun _ _ _ h => h) (Or.inl ⟨by rfl, ?_⟩) (by assumption) ?_
                          rotate_left
                          · (intro w hSw; (try dsimp only at hSw); go_simp; try (with_reducible rfl))
                          try simp only [Act.put, List.getElem_toArray, List.getElem_cons_zero, List.getElem_cons_succ, List.setIfInBounds_toArray, List.set_cons_zero, List.set_cons_succ]
                          refine wpAnyH_take (i := 3) (v := ?_) rfl (by kernel_rfl) (by kernel_rfl) (by kernel_rfl) (fun _ _ _ h => h) (Or.inl ⟨by rfl, ?_⟩) (by assumption) ?_
                          rotate_left
                          · (intro w hSw; (try dsimp only at hSw); ((have z := hSw.1)); go_simp; try (with_reducible rfl))
                          try simp only [Act.put, List.getElem_toArray, List.getElem_cons_zero, List.getElem_cons_succ, List.setIfInBounds_toArray, List.set_cons_zero, List.set_cons_succ]
                          refine wpAnyH_take (i := 4) (v := ?_) rfl (by kernel_rfl) (by kernel_rfl) (by kernel_rfl) (fun _ _ _ h => h) (Or.inl ⟨by rfl, ?_⟩) (by assumption) ?_
                          rotate_left
                          · (intro w hSw; (try dsimp only at hSw); go_simp; try (with_reducible rfl))
                          try simp only [Act.put, List.getElem_toArray, List.getElem_cons_zero, List.getElem_cons_succ, List.setIfInBounds_toArray, List.set_cons_zero, List.set_cons_succ]
                          refine wpAnyH_take (i := 5) (v := ?_) rfl (by kernel_rfl) (by kernel_rfl) (by kernel_rfl) (fun _ _ _ h => h) (Or.inl ⟨by rfl, ?_⟩) (by assumption) ?_
                          rotate_left
                          · (intro w hSw; (try dsimp only at hSw); go_simp; try (with_reducible rfl))
                          try simp only [Act.put, List.getElem_toArray, List.getElem_cons_zero, List.getElem_cons_succ, List.setIfInBounds_toArray, List.set_cons_zero, List.set_cons_succ]
                          refine wpAnyH_take (i := 6) (v := ?_) rfl (by kernel_rfl) (by kernel_rfl) (by kernel_rfl) (fun _ _ _ h => h) (Or.inl ⟨by rfl, ?_⟩) (by assumption) ?_
                          rotate_left
                          · (intro w hSw; (try dsimp only at hSw); go_simp; try (with_reducible rfl))
                          try simp only [Act.put, List.getElem_toArray, List.getElem_cons_zero, List.getElem_cons_succ, List.setIfInBounds_toArray, List.set_cons_zero, List.set_cons_succ]
                          refine wpAnyH_take (i := 7) (v := ?_) rfl (by kernel_rfl) (by kernel_rfl) (by kernel_rfl) (fun _ _ _ h => h) (Or.inl ⟨by rfl, ?_⟩) (by assumption) ?_
                          rotate_left
                          · (intro w hSw; (try dsimp only at hSw); ((obtain ⟨z0, z1, z2, z3, z4, z5, z6, z7, z8⟩ := hSw.2.1.ee)); go_simp; try (with_reducible rfl))
                          try simp only [Act.put, List.getElem_toArray, List.getElem_cons_zero, List.getElem_cons_succ, List.setIfInBounds_toArray, List.set_cons_zero, List.set_cons_succ]
                          refine wpAnyH_take (i := 8) (v := ?_) rfl (by kernel_rfl) (by kernel_rfl) (by kernel_rfl) (fun _ _ _ h => h) (Or.inl ⟨by rfl, ?_⟩) (by assumption) ?_
                          rotate_left
                          · (intro w hSw; (try dsimp only at hSw); go_simp; try (with_reducible rfl))
                          try simp only [Act.put, List.getElem_toArray, List.getElem_cons_zero, List.getElem_cons_succ, List.setIfInBounds_toArray, List.set_cons_zero, List.set_cons_succ]
                          refine wpAnyH_take (i := 9) (v := ?_) rfl (by kernel_rfl) (by kernel_rfl) (by kernel_rfl) (fun _ _ _ h => h) (Or.inl ⟨by rfl, ?_⟩) (by assumption) ?_
                          rotate_left
                          · (intro w hSw; (try dsimp only at hSw); go_simp; try (with_reducible rfl))
                          try simp only [Act.put, List.getElem_toArray, List.getElem_cons_zero, List.getElem_cons_succ, List.setIfInBounds_toArray, List.set_cons_zero, List.set_cons_succ]
                          refine wpAnyH_take (i := 10) (v := ?_) rfl (by kernel_rfl) (by kernel_rfl) (by kernel_rfl) (fun _ _ _ h => h) (Or.inl ⟨by rfl, ?_⟩) (by assumption) ?_
                          rotate_left
                          · (intro w hSw; (try dsimp only at hSw); go_simp; try (with_reducible rfl))
                          try simp only [Act.put, List.getElem_toArray, List.getElem_cons_zero, List.getElem_cons_succ, List.setIfInBounds_toArray, List.set_cons_zero, List.set_cons_succ]
                          refine wpAnyH_take (i := 11) (v := ?_) rfl (by kernel_rfl) (by kernel_rfl) (by kernel_rfl) (fun _ _ _ h => h) (Or.inl ⟨by rfl, ?_⟩) (by assumption) ?_
                          rotate_left
                          · (intro w hSw; (try dsimp only at hSw); ((have z := hSw.1)); go_simp; try (with_reducible rfl))
                          try simp only [Act.put, List.getElem_toArray, List.getElem_cons_zero, List.getElem_cons_succ, List.setIfInBounds_toArray, List.set_cons_zero, List.set_cons_succ]
                          refine wpAnyH_take (i := 12) (v := ?_) rfl (by kernel_rfl) (by kernel_rfl) (by kernel_rfl) (fun _ _ _ h => h) (Or.inl ⟨by rfl, ?_⟩) (by assumption) ?_
                          rotate_left
                          · (intro w hSw; (try dsimp only at hSw); go_simp; try (with_reducible rfl))
                          try simp only [Act.put, List.getElem_toArray, List.getElem_cons_zero, List.getElem_cons_succ, List.setIfInBounds_toArray, List.set_cons_zero, List.set_cons_succ]
                          refine wpAnyH_take (i := 13) (v := ?_) rfl (by kernel_rfl) (by kernel_rfl) (by kernel_rfl) (fun _ _ _ h => h) (Or.inl ⟨by rfl, ?_⟩) (by assumption) ?_
                          rotate_left
                          · (intro w hSw; (try dsimp only at hSw); go_simp; try (with_reducible rfl))
                          try simp only [Act.put, List.getElem_toArray, List.getElem_cons_zero, List.getElem_cons_succ, List.setIfInBounds_toArray, List.set_cons_zero, List.set_cons_succ]
                          refine wpAnyH_take (i := 14) (v := ?_) rfl (by kernel_rfl) (by kernel_rfl) (by kernel_rfl) (fun _ _ _ h => h) (Or.inl ⟨by rfl, ?_⟩) (by assumption) ?_
                          rotate_left
                          · (intro w hSw; (try dsimp only at hSw); go_simp; try (with_reducible rfl))
                          try simp only [Act.put, List.getElem_toArray, List.getElem_cons_zero, List.getElem_cons_succ, List.setIfInBounds_toArray, List.set_cons_zero, List.set_cons_succ]
                          refine wpAnyH_take (i := 15) (v := ?_) rfl (by kernel_rfl) (by kernel_rfl) (by kernel_rfl) (fun _ _ _ h => h) (Or.inl ⟨by rfl, ?_⟩) (by assumption) ?_
                          rotate_left
                          · (intro w hSw; (try dsimp only at hSw); ((obtain ⟨z0, z1, z2, z3, z4, z5, z6, z7, z8⟩ := hSw.2.2.ee)); go_simp; try (with_reducible rfl))
                          try simp only [Act.put, List.getElem_toArray, List.getElem_cons_zero, List.getElem_cons_succ, List.setIfInBounds_toArray, List.set_cons_zero, List.set_cons_succ]
                          refine wpAnyH_ready (rs := [16]) (by kernel_rfl) (by simp) ?_
                          refine (AllReadyH.cons rfl (fun K hK => ?_) AllReadyH.nil)
                          · refine step_call rfl 68 #[.agg #[.int .i64 vi.tr.num, .int .i64 vi.tr.x, .int .i64 vi.tr.y, .int .i64 vi.tr.co, .int .i64 vi.tr.sp, .int .i64 vi.tr.st, .int .i64 vi.tr.ag], .agg #[.int .i64 vx.tr.num, .int .i64 vx.tr.x, .int .i64 vx.tr.y, .int .i64 vx.tr.co, .int .i64 vx.tr.sp, .int .i64 vx.tr.st, .int .i64 vx.tr.ag]] (by simp [go_sem]) (evicted_any _ vi.tr vx.tr) ?_
                            rintro e' w3 ⟨rfl, b3⟩
                            replace b3 := of_drew b3
                            have HQ3 := hide (lec HQ.out b3)
                            have zS3 := zz _ HQ3.out
                            clear b3
                            rw [hlb]
                            refine ⟨_, rfl, ?_⟩
                            refine hK.out _ _ ?_ (fun hHeld => ?_)
                            · (first | with_reducible exact zS | with_reducible exact zS3)
                            clear hK K
                            try simp only [Act.put, List.getElem_toArray, List.getElem_cons_zero, List.getElem_cons_succ, List.setIfInBounds_toArray, List.set_cons_zero, List.set_cons_succ]
                            refine wpAnyH_done (by kernel_rfl) ?_ _
                            clear zS zS3 zz
                            go_wp2
                            first | refine HJ11.out _ _ ?rel (by kernel_rfl) rfl ?measure | refine HJ10.out _ _ ?rel (by kernel_rfl) rfl ?measure | refine HJ9.out _ _ ?rel (by kernel_rfl) rfl ?measure | refine HJ8.out _ _ ?rel (by kernel_rfl) rfl ?measure | refine HJ7.out _ _ ?rel (by kernel_rfl) rfl ?measure
                            case rel => (try dsimp only [rdA, getL]); (exact ⟨i + 1, i, by omega, by omega, by omega, by simp, by simp, HMN2, lec HE.out HQ3.out⟩)
                            case measure => (try dsimp only [rdA, getL]); (simp [intOf]; omega)
                        · have hlb : worseP vi.tr vx.tr = false := by simpa using hw
                          have HMN2 := hide (show ∀ (k : Nat) (f fx : Slt), k < i + 1 → V1[k]? = some f → V1[x]? = some fx → worseP f.tr fx.tr = false from fun k f fx hk h1 h2 => by
                            rcases (by omega : k < i ∨ k = i) with z | rfl
                            · exact HMN.out k f fx z h1 h2
                            · rw [hvi] at h1; cases h1; rw [hvx] at h2; cases h2; exact hlb)
                          clear hvi hvx hw
                          go_upto_region 60 with fail
                          clear c0
                          refine wp_region_held_drew (S := fun w' => w'.cell? ⟨mb, o, none⟩ = some (.slice (some ⟨gv, 0, none⟩) n1 cv) ∧ RA w' gv (i * 9) (Ev vi) ∧ RA w' gv (x * 9) (Ev vx)) (by kernel_rfl) zS (fun hHeld => ?_)
                          refine wpAnyH_take (i := 0) (v := ?_) rfl (by kernel_rfl) (by kernel_rfl) (by kernel_rfl) (fun _ _ _ h => h) (Or.inl ⟨by rfl, ?_⟩) (by assumption) ?_
                          rotate_left
                          · (intro w hSw; (try dsimp only at hSw); go_simp; try (with_reducible rfl))
                          try simp only [Act.put, List.getElem_toArray, List.getElem_cons_zero, List.getElem_cons_succ, List.setIfInBounds_toArray, List.set_cons_zero, List.set_cons_succ]
                          refine wpAnyH_take (i := 1) (v := ?_) rfl (by kernel_rfl) (by kernel_rfl) (by kernel_rfl) (fun _ _ _ h => h) (Or.inl ⟨by rfl, ?_⟩) (by assumption) ?_
                          rotate_left
                          · (intro w hSw; (try dsimp only at hSw); go_simp; try (with_reducible rfl))
                          try simp only [Act.put, List.getElem_toArray, List.getElem_cons_zero, List.getElem_cons_succ, List.setIfInBounds_toArray, List.set_cons_zero, List.set_cons_succ]
                          refine wpAnyH_take (i := 2) (v := ?_) rfl (by kernel_rfl) (by kernel_rfl) (by kernel_rfl) (fun _ _ _ h => h) (Or.inl ⟨by rfl, ?_⟩) (by assumption) ?_
                          rotate_left
                          · (intro w hSw; (try dsimp only at hSw); go_simp; try (with_reducible rfl))
                          try simp only [Act.put, List.getElem_toArray, List.getElem_cons_zero, List.getElem_cons_succ, List.setIfInBounds_toArray, List.set_cons_zero, List.set_cons_succ]
                          refine wpAnyH_take (i := 3) (v := ?_) rfl (by kernel_rfl) (by kernel_rfl) (by kernel_rfl) (fun _ _ _ h => h) (Or.inl ⟨by rfl, ?_⟩) (by assumption) ?_
                          rotate_left
                          · (intro w hSw; (try dsimp only at hSw); ((have z := hSw.1)); go_simp; try (with_reducible rfl))
                          try simp only [Act.put, List.getElem_toArray, List.getElem_cons_zero, List.getElem_cons_succ, List.setIfInBounds_toArray, List.set_cons_zero, List.set_cons_succ]
                          refine wpAnyH_take (i := 4) (v := ?_) rfl (by kernel_rfl) (by kernel_rfl) (by kernel_rfl) (fun _ _ _ h => h) (Or.inl ⟨by rfl, ?_⟩) (by assumption) ?_
                          rotate_left
                          · (intro w hSw; (try dsimp only at hSw); go_simp; try (with_reducible rfl))
                          try simp only [Act.put, List.getElem_toArray, List.getElem_cons_zero, List.getElem_cons_succ, List.setIfInBounds_toArray, List.set_cons_zero, List.set_cons_succ]
                          refine wpAnyH_take (i := 5) (v := ?_) rfl (by kernel_rfl) (by kernel_rfl) (by kernel_rfl) (fun _ _ _ h => h) (Or.inl ⟨by rfl, ?_⟩) (by assumption) ?_
                          rotate_left
                          · (intro w hSw; (try dsimp only at hSw); go_simp; try (with_reducible rfl))
                          try simp only [Act.put, List.getElem_toArray, List.getElem_cons_zero, List.getElem_cons_succ, List.setIfInBounds_toArray, List.set_cons_zero, List.set_cons_succ]
                          refine wpAnyH_take (i := 6) (v := ?_) rfl (by kernel_rfl) (by kernel_rfl) (by kernel_rfl) (fun _ _ _ h => h) (Or.inl ⟨by rfl, ?_⟩) (by assumption) ?_
                          rotate_left
                          · (intro w hSw; (try dsimp only at hSw); go_simp; try (with_reducible rfl))
                          try simp only [Act.put, List.getElem_toArray, List.getElem_cons_zero, List.getElem_cons_succ, List.setIfInBounds_toArray, List.set_cons_zero, List.set_cons_succ]
                          refine wpAnyH_take (i := 7) (v := ?_) rfl (by kernel_rfl) (by kernel_rfl) (by kernel_rfl) (fun _ _ _ h => h) (Or.inl ⟨by rfl, ?_⟩) (by assumption) ?_
                          rotate_left
                          · (intro w hSw; (try dsimp only at hSw); ((obtain ⟨z0, z1, z2, z3, z4, z5, z6, z7, z8⟩ := hSw.2.1.ee)); go_simp; try (with_reducible rfl))
                          try simp only [Act.put, List.getElem_toArray, List.getElem_cons_zero, List.getElem_cons_succ, List.setIfInBounds_toArray, List.set_cons_zero, List.set_cons_succ]
                          refine wpAnyH_take (i := 8) (v := ?_) rfl (by kernel_rfl) (by kernel_rfl) (by kernel_rfl) (fun _ _ _ h => h) (Or.inl ⟨by rfl, ?_⟩) (by assumption) ?_
                          rotate_left
                          · (intro w hSw; (try dsimp only at hSw); go_simp; try (with_reducible rfl))
                          try simp only [Act.put, List.getElem_toArray, List.getElem_cons_zero, List.getElem_cons_succ, List.setIfInBounds_toArray, List.set_cons_zero, List.set_cons_succ]
                          refine wpAnyH_take (i := 9) (v := ?_) rfl (by kernel_rfl) (by kernel_rfl) (by kernel_rfl) (fun _ _ _ h => h) (Or.inl ⟨by rfl, ?_⟩) (by assumption) ?_
                          rotate_left
                          · (intro w hSw; (try dsimp only at hSw); go_simp; try (with_reducible rfl))
                          try simp only [Act.put, List.getElem_toArray, List.getElem_cons_zero, List.getElem_cons_succ, List.setIfInBounds_toArray, List.set_cons_zero, List.set_cons_succ]
                          refine wpAnyH_take (i := 10) (v := ?_) rfl (by kernel_rfl) (by kernel_rfl) (by kernel_rfl) (fun _ _ _ h => h) (Or.inl ⟨by rfl, ?_⟩) (by assumption) ?_
                          rotate_left
                          · (intro w hSw; (try dsimp only at hSw); go_simp; try (with_reducible rfl))
                          try simp only [Act.put, List.getElem_toArray, List.getElem_cons_zero, List.getElem_cons_succ, List.setIfInBounds_toArray, List.set_cons_zero, List.set_cons_succ]
                          refine wpAnyH_take (i := 11) (v := ?_) rfl (by kernel_rfl) (by kernel_rfl) (by kernel_rfl) (fun _ _ _ h => h) (Or.inl ⟨by rfl, ?_⟩) (by assumption) ?_
                          rotate_left
                          · (intro w hSw; (try dsimp only at hSw); ((have z := hSw.1)); go_simp; try (with_reducible rfl))
                          try simp only [Act.put, List.getElem_toArray, List.getElem_cons_zero, List.getElem_cons_succ, List.setIfInBounds_toArray, List.set_cons_zero, List.set_cons_succ]
                          refine wpAnyH_take (i := 12) (v := ?_) rfl (by kernel_rfl) (by kernel_rfl) (by kernel_rfl) (fun _ _ _ h => h) (Or.inl ⟨by rfl, ?_⟩) (by assumption) ?_
                          rotate_left
                          · (intro w hSw; (try dsimp only at hSw); go_simp; try (with_reducible rfl))
                          try simp only [Act.put, List.getElem_toArray, List.getElem_cons_zero, List.getElem_cons_succ, List.setIfInBounds_toArray, List.set_cons_zero, List.set_cons_succ]
                          refine wpAnyH_take (i := 13) (v := ?_) rfl (by kernel_rfl) (by kernel_rfl) (by kernel_rfl) (fun _ _ _ h => h) (Or.inl ⟨by rfl, ?_⟩) (by assumption) ?_
                          rotate_left
                          · (intro w hSw; (try dsimp only at hSw); go_simp; try (with_reducible rfl))
                          try simp only [Act.put, List.getElem_toArray, List.getElem_cons_zero, List.getElem_cons_succ, List.setIfInBounds_toArray, List.set_cons_zero, List.set_cons_succ]
                          refine wpAnyH_take (i := 14) (v := ?_) rfl (by kernel_rfl) (by kernel_rfl) (by kernel_rfl) (fun _ _ _ h => h) (Or.inl ⟨by rfl, ?_⟩) (by assumption) ?_
                          rotate_left
                          · (intro w hSw; (try dsimp only at hSw); go_simp; try (with_reducible rfl))
                          try simp only [Act.put, List.getElem_toArray, List.getElem_cons_zero, List.getElem_cons_succ, List.setIfInBounds_toArray, List.set_cons_zero, List.set_cons_succ]
                          refine wpAnyH_take (i := 15) (v := ?_) rfl (by kernel_rfl) (by kernel_rfl) (by kernel_rfl) (fun _ _ _ h => h) (Or.inl ⟨by rfl, ?_⟩) (by assumption) ?_
                          rotate_left
                          · (intro w hSw; (try dsimp only at hSw); ((obtain ⟨z0, z1, z2, z3, z4, z5, z6, z7, z8⟩ := hSw.2.2.ee)); go_simp; try (with_reducible rfl))
                          try simp only [Act.put, List.getElem_toArray, List.getElem_cons_zero, List.getElem_cons_succ, List.setIfInBounds_toArray, List.set_cons_zero, List.set_cons_succ]
                          refine wpAnyH_ready (rs := [16]) (by kernel_rfl) (by simp) ?_
                          refine (AllReadyH.cons rfl (fun K hK => ?_) AllReadyH.nil)
                          · refine step_call rfl 68 #[.agg #[.int .i64 vi.tr.num, .int .i64 vi.tr.x, .int .i64 vi.tr.y, .int .i64 vi.tr.co, .int .i64 vi.tr.sp, .int .i64 vi.tr.st, .int .i64 vi.tr.ag], .agg #[.int .i64 vx.tr.num, .int .i64 vx.tr.x, .int .i64 vx.tr.y, .int .i64 vx.tr.co, .int .i64 vx.tr.sp, .int .i64 vx.tr.st, .int .i64 vx.tr.ag]] (by simp [go_sem]) (evicted_any _ vi.tr vx.tr) ?_
                            rintro e' w3 ⟨rfl, b3⟩
                            replace b3 := of_drew b3
                            have HQ3 := hide (lec HQ.out b3)
                            have zS3 := zz _ HQ3.out
                            clear b3
                            rw [hlb]
                            refine ⟨_, rfl, ?_⟩
                            refine hK.out _ _ ?_ (fun hHeld => ?_)
                            · (first | with_reducible exact zS | with_reducible exact zS3)
                            clear hK K
                            try simp only [Act.put, List.getElem_toArray, List.getElem_cons_zero, List.getElem_cons_succ, List.setIfInBounds_toArray, List.set_cons_zero, List.set_cons_succ]
                            refine wpAnyH_done (by kernel_rfl) ?_ _
                            clear zS zS3 zz
                            go_wp2
                            first | refine HJ11.out _ _ ?rel (by kernel_rfl) rfl ?measure | refine HJ10.out _ _ ?rel (by kernel_rfl) rfl ?measure | refine HJ9.out _ _ ?rel (by kernel_rfl) rfl ?measure | refine HJ8.out _ _ ?rel (by kernel_rfl) rfl ?measure | refine HJ7.out _ _ ?rel (by kernel_rfl) rfl ?measure
                            case rel => (try dsimp only [rdA, getL]); (exact ⟨i + 1, x, by omega, by omega, by omega, by simp, by simp, HMN2, lec HE.out HQ3.out⟩)
                            case measure => (try dsimp only [rdA, getL]); (simp [intOf]; omega)
                      · have hini : ¬ (i : Int) < (n1 : Int) := by omega
                        have hxi : (x : Int) < (n1 : Int) := by omega
                        have hx0' : decide ((x : Int) < 0) = false := by simp
                        obtain ⟨vx, hvx⟩ : ∃ v, V1[x]? = some v := ⟨_, List.getElem?_eq_getElem (by have := HN1.out; omega)⟩
                        have HOX := hide (HVO.out vx (List.mem_of_getElem? hvx))
                        have HXM := hide (List.mem_of_getElem? hvx)
                        have HWV := hide (show ∀ b ∈ V1, worseP b.tr vx.tr = false from fun b hb => by
                          obtain ⟨k, hk⟩ := List.mem_iff_getElem?.1 hb
                          exact HMN.out k b vx (by have := (List.getElem?_eq_some_iff.1 hk).1; have := HN1.out; omega) hk hvx)
                        replace HVr := hide (HVr.out.below HE.out)
                        replace HG := hide (HG.out.below HE.out)
                        replace HT := hide (HT.out.below HE.out)
                        replace HFr := hide (HFr.out.bel HMB.out HE.out)
                        obtain ⟨q0, q1, q2, q3, q4, q5, q6, q7, q8⟩ := (HVr.out.row.at' HN1.out hvx).ee
                        clear hvx HMN HE
                        go_wp2_with fail
                        refine (key_any _ vx).mono ?_
                        rintro e' w4 ⟨rfl, b4⟩
                        replace HVr := hide (HVr.out.below b4)
                        replace HG := hide (HG.out.below b4)
                        replace HT := hide (HT.out.below b4)
                        replace HFr := hide (HFr.out.bel HMB.out b4)
                        clear b4 c0 q0 q1 q2 q3 q4 q5 q6 q7 q8
                        go_upto_region 63 with fail
                        have HKK := hide (new_kk w4 vx)
                        replace HVr := hide (HVr.out.below (be1 w4 (.cells #[.int .i64 vx.tr.ag, .int .i64 vx.tr.x, .int .i64 vx.tr.y, .int .i64 vx.tr.co, .int .i64 vx.tr.sp, .int .i64 vx.tr.st, .int .i64 vx.sk] 135)))
                        replace HG := hide (HG.out.below (be1 w4 (.cells #[.int .i64 vx.tr.ag, .int .i64 vx.tr.x, .int .i64 vx.tr.y, .int .i64 vx.tr.co, .int .i64 vx.tr.sp, .int .i64 vx.tr.st, .int .i64 vx.sk] 135)))
                        replace HT := hide (HT.out.below (be1 w4 (.cells #[.int .i64 vx.tr.ag, .int .i64 vx.tr.x, .int .i64 vx.tr.y, .int .i64 vx.tr.co, .int .i64 vx.tr.sp, .int .i64 vx.tr.st, .int .i64 vx.sk] 135)))
                        replace HFr := hide (HFr.out.bel HMB.out (be1 w4 (.cells #[.int .i64 vx.tr.ag, .int .i64 vx.tr.x, .int .i64 vx.tr.y, .int .i64 vx.tr.co, .int .i64 vx.tr.sp, .int .i64 vx.tr.st, .int .i64 vx.sk] 135)))
                        have HQL := hide (show w4.heap.size < (w4.alloc (.cells #[.int .i64 vx.tr.ag, .int .i64 vx.tr.x, .int .i64 vx.tr.y, .int .i64 vx.tr.co, .int .i64 vx.tr.sp, .int .i64 vx.tr.st, .int .i64 vx.sk] 135)).heap.size by simp)
                        generalize w4.alloc (.cells #[.int .i64 vx.tr.ag, .int .i64 vx.tr.x, .int .i64 vx.tr.y, .int .i64 vx.tr.co, .int .i64 vx.tr.sp, .int .i64 vx.tr.st, .int .i64 vx.sk] 135) = wq at *
                        generalize w4.heap.size = q at *
                        have HQW := hide (show w.heap.size ≤ wq.heap.size from HFr.out.ex.size)
                        replace HGW := hide (show ∀ g, (Value.slice (some ⟨gg, 0, none⟩) ng cg).ownBlock = some g → g < wq.heap.size from fun g e => (HG.out.own e).2)
                        replace HTW := hide (show ∀ g, (Value.slice ar nR cr).ownBlock = some g → g < wq.heap.size from fun g e => (HT.out.own e).2)
                        go_wp2
                        refine wp_loop_mix [none, none, none, none, none, none, none, none, none, none, none, none, none, none, none, none, none, none, none, none, none, none, none, none, none, none, none, none, none, none, none, some 31, some 32, none, none, none, none, none, none, none, none, none, none, none, none, none, none, none, none, none, none, none, none, none, none, none, none, none, none, none, none, none, none, none, none, none, none, none, none, none, none, none, none, none, none, none, none, none, none, none, none, none, none, none, none, none, none, none, none, none, none, none, none, none, none, none, none, none, none, none, none, none, none, none, none, none, none, none, none, none, none, none, none, none, none, none, none, none, none, none, none, none, none, none, none, none, none, none, none, none, none, none, none, none, none, none, none, none, none, none, none, none, none, none, none, none, none, none, none, none, none, none, none, none, none, none, none, none, none, none, none, none, none, none, none, none, none, none, none, none, none, none, none, none, none, none, none, none, none, none, none, none, none, none, none, none, none, none, none, none, none, none, none, none, none, none, none, none, none, none, none, none, none, none, none, none, none, none, none, none, none, none, none, none, none, none, none, none, none, none, none, none, none, none, none, none, none, none, none, none, none, none, none, none, none, none, none, none, none, none, none, none, none, none, none, none, none, none, none, none, none, none, none, none, none, none, none, none, none, none, none, none, none, none, none, none, none, none, none, none, none, none, none, none, none, none, none, none, none, none, none, none, none, none, none, none, none, none, none, none, none, none, none, none, none, none, none, none, none, none, none, none, none, none, none, none, none, none, none, none, none, none, none, none, none, none, none, none, none, none, none, none, none, none, none, none, none, none, none, none, none, some 331, some 332, some 333, some 334, some 335, some 336, some 337, some 338, some 339, some 340, some 341, some 342, some 343, some 344, some 345, some 346, some 347, some 348, some 349, some 350, some 351, some 352, some 353, some 354, some 355, some 356, some 357, some 358, some 359, none, none, none, none, none, none, none, none, none, none, none, none, none, none, none, none, none, none, none, none, none, none, none, none, none, none, none, none, none, none, none, none, none, none, none, none, none, none, none] (by kernel_rfl) (fun us wy => (fun s31 s32 wy => ∃ (i : Nat) (ak : Option Addr) (ck : Nat), i ≤ n1 ∧ s32 = .int .i64 i ∧ s31 = .slice ak ((V1.take i).filter (fun s => decide (keyP s ≠ keyP vx))).length ck ∧ ERow wy wq.heap.size (.slice ak ((V1.take i).filter (fun s => decide (keyP s ≠ keyP vx))).length ck) ((V1.take i).filter (fun s => decide (keyP s ≠ keyP vx))) ∧ Below wq.heap.size wq wy) (us 31) (us 32) wy) (fun us wy => (fun _ s32 _ => n1 - (intOf s32).toNat) (us 31) (us 32) wy) ?atStart ?round
                        case atStart => (dsimp only [getL]; exact ⟨0, none, 0, by omega, rfl, rfl, World.ownsRow_nil _ _ _ _, Below.refl _ _⟩)
                        case round =>
                          intro us wr hrel J12 hJ12
                          dsimp only at hrel hJ12
                          dsimp only [mixF]
                          generalize us 31 = s31 at hrel hJ12 ⊢
                          generalize us 32 = s32 at hrel hJ12 ⊢
                          have HJ12 := hide hJ12
                          clear hJ12
                          obtain ⟨i, ak, ck, hi, rfl, rfl, hk, hb⟩ := hrel
                          have HK := hide hk
                          have HE := hide hb
                          clear hk hb
                          have c0 := cellKeep HE.out HVr.out.c0
                          by_cases hin : i < n1
                          · have hini : (i : Int) < (n1 : Int) := by omega
                            have hi0' : decide ((i : Int) < 0) = false := by simp
                            obtain ⟨vi, hvi⟩ : ∃ v, V1[i]? = some v := ⟨_, List.getElem?_eq_getElem (by have := HN1.out; omega)⟩
                            have HVI := hide hvi
                            have HOI := hide (HVO.out vi (List.mem_of_getElem? hvi))
                            have HXK := hide (filt_take (p := fun s => decide (keyP s ≠ keyP vx)) hvi)
                            have hKl : ((V1.take i).filter (fun s => decide (keyP s ≠ keyP vx))).length ≤ i := Nat.le_trans (List.length_filter_le _ _) (by rw [List.length_take]; omega)
                            obtain ⟨Kp, hKp⟩ : ∃ Kp, (V1.take i).filter (fun s => decide (keyP s ≠ keyP vx)) = Kp := ⟨_, rfl⟩
                            rw [hKp] at HK HXK hKl ⊢
                            clear hKp
                            have HVk := hide (HVr.out.below HE.out)
                            have HQ := hide (Below.refl wr.heap.size wr)
                            have zz := fun wx (h : Below wr.heap.size wr wx) => z67 (HVk.out.below h) hvi (fun k hk => cellKeep h (cellKeep HE.out (HKK.out k hk)))
                            have zS := zz _ (Below.refl _ _).drew
                            clear hvi
                            have HVr0 := HVr
                            clear HVr
                            have HVr := HVk
                            clear HVk
                            by_cases hkk : keyP vi = keyP vx
                            · have hkb : decide (keyP vi = keyP vx) = true := by simpa using hkk
                              replace HXK := hide (show (V1.take (i + 1)).filter (fun s => decide (keyP s ≠ keyP vx)) = Kp by rw [HXK.out, if_neg (by simp [hkk]), List.append_nil])
                              clear hkk
                              go_upto_region 67 with fail
                              clear c0
                              refine wp_region_held_drew (S := fun w' => w'.cell? ⟨mb, o, none⟩ = some (.slice (some ⟨gv, 0, none⟩) n1 cv) ∧ RA w' gv (i * 9) (Ev vi) ∧ w'.cell? ⟨q, 0, none⟩ = some (.int .i64 vx.tr.ag) ∧ w'.cell? ⟨q, 1, none⟩ = some (.int .i64 vx.tr.x) ∧ w'.cell? ⟨q, 2, none⟩ = some (.int .i64 vx.tr.y) ∧ w'.cell? ⟨q, 3, none⟩ = some (.int .i64 vx.tr.co) ∧ w'.cell? ⟨q, 4, none⟩ = some (.int .i64 vx.tr.sp) ∧ w'.cell? ⟨q, 5, none⟩ = some (.int .i64 vx.tr.st) ∧ w'.cell? ⟨q, 6, none⟩ = some (.int .i64 vx.sk)) (by kernel_rfl) zS (fun hHeld => ?_)
                              refine wpAnyH_take (i := 0) (v := ?_) rfl (by kernel_rfl) (by kernel_rfl) (by kernel_rfl) (fun _ _ _ h => h) (Or.inl ⟨by rfl, ?_⟩) (by assumption) ?_
                              rotate_left
                              · (intro w hSw; (try dsimp only at hSw); go_simp; try (with_reducible rfl))
                              try simp only [Act.put, List.getElem_toArray, List.getElem_cons_zero, List.getElem_cons_succ, List.setIfInBounds_toArray, List.set_cons_zero, List.set_cons_succ]
                              refine wpAnyH_take (i := 1) (v := ?_) rfl (by kernel_rfl) (by kernel_rfl) (by kernel_rfl) (fun _ _ _ h => h) (Or.inl ⟨by rfl, ?_⟩) (by assumption) ?_
                              rotate_left
                              · (intro w hSw; (try dsimp only at hSw); go_simp; try (with_reducible rfl))
                              try simp only [Act.put, List.getElem_toArray, List.getElem_cons_zero, List.getElem_cons_succ, List.setIfInBounds_toArray, List.set_cons_zero, List.set_cons_succ]
                              refine wpAnyH_take (i := 2) (v := ?_) rfl (by kernel_rfl) (by kernel_rfl) (by kernel_rfl) (fun _ _ _ h => h) (Or.inl ⟨by rfl, ?_⟩) (by assumption) ?_
                              rotate_left
                              · (intro w hSw; (try dsimp only at hSw); go_simp; try (with_reducible rfl))
                              try simp only [Act.put, List.getElem_toArray, List.getElem_cons_zero, List.getElem_cons_succ, List.setIfInBounds_toArray, List.set_cons_zero, List.set_cons_succ]
                              refine wpAnyH_take (i := 3) (v := ?_) rfl (by kernel_rfl) (by kernel_rfl) (by kernel_rfl) (fun _ _ _ h => h) (Or.inl ⟨by rfl, ?_⟩) (by assumption) ?_
                              rotate_left
                              · (intro w hSw; (try dsimp only at hSw); ((have z := hSw.1)); go_simp; try (with_reducible rfl))
                              try simp only [Act.put, List.getElem_toArray, List.getElem_cons_zero, List.getElem_cons_succ, List.setIfInBounds_toArray, List.set_cons_zero, List.set_cons_succ]
                              refine wpAnyH_take (i := 4) (v := ?_) rfl (by kernel_rfl) (by kernel_rfl) (by kernel_rfl) (fun _ _ _ h => h) (Or.inl ⟨by rfl, ?_⟩) (by assumption) ?_
                              rotate_left
                              · (intro w hSw; (try dsimp only at hSw); go_simp; try (with_reducible rfl))
                              try simp only [Act.put, List.getElem_toArray, List.getElem_cons_zero, List.getElem_cons_succ, List.setIfInBounds_toArray, List.set_cons_zero, List.set_cons_succ]
                              refine wpAnyH_take (i := 5) (v := ?_) rfl (by kernel_rfl) (by kernel_rfl) (by kernel_rfl) (fun _ _ _ h => h) (Or.inl ⟨by rfl, ?_⟩) (by assumption) ?_
                              rotate_left
                              · (intro w hSw; (try dsimp only at hSw); go_simp; try (with_reducible rfl))
                              try simp only [Act.put, List.getElem_toArray, List.getElem_cons_zero, List.getElem_cons_succ, List.setIfInBounds_toArray, List.set_cons_zero, List.set_cons_succ]
                              refine wpAnyH_take (i := 6) (v := ?_) rfl (by kernel_rfl) (by kernel_rfl) (by kernel_rfl) (fun _ _ _ h => h) (Or.inl ⟨by rfl, ?_⟩) (by assumption) ?_
                              rotate_left
                              · (intro w hSw; (try dsimp only at hSw); ((obtain ⟨z0, z1, z2, z3, z4, z5, z6, z7, z8⟩ := hSw.2.1.ee)); go_simp; try (with_reducible rfl))
                              try simp only [Act.put, List.getElem_toArray, List.getElem_cons_zero, List.getElem_cons_succ, List.setIfInBounds_toArray, List.set_cons_zero, List.set_cons_succ]
                              refine wpAnyH_take (i := 8) (v := ?_) rfl (by kernel_rfl) (by kernel_rfl) (by kernel_rfl) (fun _ _ _ h => h) (Or.inl ⟨by rfl, ?_⟩) (by assumption) ?_
                              rotate_left
                              · (intro w hSw; (try dsimp only at hSw); ((obtain ⟨k0, k1, k2, k3, k4, k5, k6⟩ := hSw.2.2)); go_simp; try (with_reducible rfl))
                              try simp only [Act.put, List.getElem_toArray, List.getElem_cons_zero, List.getElem_cons_succ, List.setIfInBounds_toArray, List.set_cons_zero, List.set_cons_succ]
                              refine wpAnyH_ready (rs := [7]) (by kernel_rfl) (by simp) ?_
                              refine (AllReadyH.cons rfl (fun K hK => ?_) AllReadyH.nil)
                              · refine step_call rfl 66 #[.agg #[.int .i64 vi.tg, .int .i64 vi.sk, .int .i64 vi.tr.num, .int .i64 vi.tr.x, .int .i64 vi.tr.y, .int .i64 vi.tr.co, .int .i64 vi.tr.sp, .int .i64 vi.tr.st, .int .i64 vi.tr.ag]] (by simp [go_sem]) (key_any _ vi) ?_
                                rintro e' w3 ⟨rfl, b3⟩
                                replace b3 := of_drew b3
                                have HQ3 := hide (lec HQ.out b3)
                                have zS3 := zz _ HQ3.out
                                clear b3
                                refine ⟨_, rfl, ?_⟩
                                refine hK.out _ _ ?_ (fun hHeld => ?_)
                                · (first | with_reducible exact zS | with_reducible exact zS3)
                                clear hK K
                                try simp only [Act.put, List.getElem_toArray, List.getElem_cons_zero, List.getElem_cons_succ, List.setIfInBounds_toArray, List.set_cons_zero, List.set_cons_succ]
                                refine wpAnyH_take (i := 9) (v := ?_) rfl (by kernel_rfl) (by kernel_rfl) (by kernel_rfl) (fun _ _ _ h => h) (Or.inl ⟨by rfl, ?_⟩) (by assumption) ?_
                                rotate_left
                                · (intro w hSw; (try dsimp only at hSw); ((have zq := eq135 w vi vx HOI.out HOX.out)); go_simp; try (with_reducible rfl))
                                try simp only [Act.put, List.getElem_toArray, List.getElem_cons_zero, List.getElem_cons_succ, List.setIfInBounds_toArray, List.set_cons_zero, List.set_cons_succ]
                                refine wpAnyH_done (by kernel_rfl) ?_ _
                                clear zS zS3 zz
                                go_wp2
                                first | refine HJ12.out _ _ ?rel (by kernel_rfl) rfl ?measure | refine HJ11.out _ _ ?rel (by kernel_rfl) rfl ?measure | refine HJ10.out _ _ ?rel (by kernel_rfl) rfl ?measure | refine HJ9.out _ _ ?rel (by kernel_rfl) rfl ?measure | refine HJ8.out _ _ ?rel (by kernel_rfl) rfl ?measure | refine HJ7.out _ _ ?rel (by kernel_rfl) rfl ?measure
                                case rel => (try dsimp only [rdA, getL]); (exact ⟨i + 1, ak, ck, by omega, by simp, by rw [HXK.out], by rw [HXK.out]; exact HK.out.below HQ3.out, lec HE.out HQ3.out⟩)
                                case measure => (try dsimp only [rdA, getL]); (simp [intOf]; omega)
                            · have hkb : decide (keyP vi = keyP vx) = false := by simpa using hkk
                              replace HXK := hide (show (V1.take (i + 1)).filter (fun s => decide (keyP s ≠ keyP vx)) = Kp ++ [vi] by rw [HXK.out, if_pos (by simp [hkk])])
                              clear hkk
                              go_upto_region 67 with fail
                              clear c0
                              refine wp_region_held_drew (S := fun w' => w'.cell? ⟨mb, o, none⟩ = some (.slice (some ⟨gv, 0, none⟩) n1 cv) ∧ RA w' gv (i * 9) (Ev vi) ∧ w'.cell? ⟨q, 0, none⟩ = some (.int .i64 vx.tr.ag) ∧ w'.cell? ⟨q, 1, none⟩ = some (.int .i64 vx.tr.x) ∧ w'.cell? ⟨q, 2, none⟩ = some (.int .i64 vx.tr.y) ∧ w'.cell? ⟨q, 3, none⟩ = some (.int .i64 vx.tr.co) ∧ w'.cell? ⟨q, 4, none⟩ = some (.int .i64 vx.tr.sp) ∧ w'.cell? ⟨q, 5, none⟩ = some (.int .i64 vx.tr.st) ∧ w'.cell? ⟨q, 6, none⟩ = some (.int .i64 vx.sk)) (by kernel_rfl) zS (fun hHeld => ?_)
                              refine wpAnyH_take (i := 0) (v := ?_) rfl (by kernel_rfl) (by kernel_rfl) (by kernel_rfl) (fun _ _ _ h => h) (Or.inl ⟨by rfl, ?_⟩) (by assumption) ?_
                              rotate_left
                              · (intro w hSw; (try dsimp only at hSw); go_simp; try (with_reducible rfl))
                              try simp only [Act.put, List.getElem_toArray, List.getElem_cons_zero, List.getElem_cons_succ, List.setIfInBounds_toArray, List.set_cons_zero, List.set_cons_succ]
                              refine wpAnyH_take (i := 1) (v := ?_) rfl (by kernel_rfl) (by kernel_rfl) (by kernel_rfl) (fun _ _ _ h => h) (Or.inl ⟨by rfl, ?_⟩) (by assumption) ?_
                              rotate_left
                              · (intro w hSw; (try dsimp only at hSw); go_simp; try (with_reducible rfl))
                              try simp only [Act.put, List.getElem_toArray, List.getElem_cons_zero, List.getElem_cons_succ, List.setIfInBounds_toArray, List.set_cons_zero, List.set_cons_succ]
                              refine wpAnyH_take (i := 2) (v := ?_) rfl (by kernel_rfl) (by kernel_rfl) (by kernel_rfl) (fun _ _ _ h => h) (Or.inl ⟨by rfl, ?_⟩) (by assumption) ?_
                              rotate_left
                              · (intro w hSw; (try dsimp only at hSw); go_simp; try (with_reducible rfl))
                              try simp only [Act.put, List.getElem_toArray, List.getElem_cons_zero, List.getElem_cons_succ, List.setIfInBounds_toArray, List.set_cons_zero, List.set_cons_succ]
                              refine wpAnyH_take (i := 3) (v := ?_) rfl (by kernel_rfl) (by kernel_rfl) (by kernel_rfl) (fun _ _ _ h => h) (Or.inl ⟨by rfl, ?_⟩) (by assumption) ?_
                              rotate_left
                              · (intro w hSw; (try dsimp only at hSw); ((have z := hSw.1)); go_simp; try (with_reducible rfl))
                              try simp only [Act.put, List.getElem_toArray, List.getElem_cons_zero, List.getElem_cons_succ, List.setIfInBounds_toArray, List.set_cons_zero, List.set_cons_succ]
                              refine wpAnyH_take (i := 4) (v := ?_) rfl (by kernel_rfl) (by kernel_rfl) (by kernel_rfl) (fun _ _ _ h => h) (Or.inl ⟨by rfl, ?_⟩) (by assumption) ?_
                              rotate_left
                              · (intro w hSw; (try dsimp only at hSw); go_simp; try (with_reducible rfl))
                              try simp only [Act.put, List.getElem_toArray, List.getElem_cons_zero, List.getElem_cons_succ, List.setIfInBounds_toArray, List.set_cons_zero, List.set_cons_succ]
                              refine wpAnyH_take (i := 5) (v := ?_) rfl (by kernel_rfl) (by kernel_rfl) (by kernel_rfl) (fun _ _ _ h => h) (Or.inl ⟨by rfl, ?_⟩) (by assumption) ?_
                              rotate_left
                              · (intro w hSw; (try dsimp only at hSw); go_simp; try (with_reducible rfl))
                              try simp only [Act.put, List.getElem_toArray, List.getElem_cons_zero, List.getElem_cons_succ, List.setIfInBounds_toArray, List.set_cons_zero, List.set_cons_succ]
                              refine wpAnyH_take (i := 6) (v := ?_) rfl (by kernel_rfl) (by kernel_rfl) (by kernel_rfl) (fun _ _ _ h => h) (Or.inl ⟨by rfl, ?_⟩) (by assumption) ?_
                              rotate_left
                              · (intro w hSw; (try dsimp only at hSw); ((obtain ⟨z0, z1, z2, z3, z4, z5, z6, z7, z8⟩ := hSw.2.1.ee)); go_simp; try (with_reducible rfl))
                              try simp only [Act.put, List.getElem_toArray, List.getElem_cons_zero, List.getElem_cons_succ, List.setIfInBounds_toArray, List.set_cons_zero, List.set_cons_succ]
                              refine wpAnyH_take (i := 8) (v := ?_) rfl (by kernel_rfl) (by kernel_rfl) (by kernel_rfl) (fun _ _ _ h => h) (Or.inl ⟨by rfl, ?_⟩) (by assumption) ?_
                              rotate_left
                              · (intro w hSw; (try dsimp only at hSw); ((obtain ⟨k0, k1, k2, k3, k4, k5, k6⟩ := hSw.2.2)); go_simp; try (with_reducible rfl))
                              try simp only [Act.put, List.getElem_toArray, List.getElem_cons_zero, List.getElem_cons_succ, List.setIfInBounds_toArray, List.set_cons_zero, List.set_cons_succ]
                              refine wpAnyH_ready (rs := [7]) (by kernel_rfl) (by simp) ?_
                              refine (AllReadyH.cons rfl (fun K hK => ?_) AllReadyH.nil)
                              · refine step_call rfl 66 #[.agg #[.int .i64 vi.tg, .int .i64 vi.sk, .int .i64 vi.tr.num, .int .i64 vi.tr.x, .int .i64 vi.tr.y, .int .i64 vi.tr.co, .int .i64 vi.tr.sp, .int .i64 vi.tr.st, .int .i64 vi.tr.ag]] (by simp [go_sem]) (key_any _ vi) ?_
                                rintro e' w3 ⟨rfl, b3⟩
                                replace b3 := of_drew b3
                                have HQ3 := hide (lec HQ.out b3)
                                have zS3 := zz _ HQ3.out
                                clear b3
                                refine ⟨_, rfl, ?_⟩
                                refine hK.out _ _ ?_ (fun hHeld => ?_)
                                · (first | with_reducible exact zS | with_reducible exact zS3)
                                clear hK K
                                try simp only [Act.put, List.getElem_toArray, List.getElem_cons_zero, List.getElem_cons_succ, List.setIfInBounds_toArray, List.set_cons_zero, List.set_cons_succ]
                                refine wpAnyH_take (i := 9) (v := ?_) rfl (by kernel_rfl) (by kernel_rfl) (by kernel_rfl) (fun _ _ _ h => h) (Or.inl ⟨by rfl, ?_⟩) (by assumption) ?_
                                rotate_left
                                · (intro w hSw; (try dsimp only at hSw); ((have zq := eq135 w vi vx HOI.out HOX.out)); go_simp; try (with_reducible rfl))
                                try simp only [Act.put, List.getElem_toArray, List.getElem_cons_zero, List.getElem_cons_succ, List.setIfInBounds_toArray, List.set_cons_zero, List.set_cons_succ]
                                refine wpAnyH_done (by kernel_rfl) ?_ _
                                clear zS zS3 zz
                                have HK3 := hide (HK.out.below HQ3.out)
                                have HE3 := hide (lec HE.out HQ3.out)
                                have HEA := hide (lec HE3.out (be1 w3 (.cells #[.int .i64 vi.tg, .int .i64 vi.sk, .int .i64 vi.tr.num, .int .i64 vi.tr.x, .int .i64 vi.tr.y, .int .i64 vi.tr.co, .int .i64 vi.tr.sp, .int .i64 vi.tr.st, .int .i64 vi.tr.ag] 113)))
                                have HSZ := hide HEA.out.size
                                have HV3 := hide ((HVr.out.below HQ3.out))
                                have c0 := HV3.out.c0
                                obtain ⟨q0, q1, q2, q3, q4, q5, q6, q7, q8⟩ := (HV3.out.row.at' HN1.out HVI.out).ee
                                clear HQ HQ3 HK
                                have HR3 := hide (HK3.out.below (be1 w3 (.cells #[.int .i64 vi.tg, .int .i64 vi.sk, .int .i64 vi.tr.num, .int .i64 vi.tr.x, .int .i64 vi.tr.y, .int .i64 vi.tr.co, .int .i64 vi.tr.sp, .int .i64 vi.tr.st, .int .i64 vi.tr.ag] 113)))
                                have HNC := hide (show ∀ (j : Nat) (u : Value), (Ev vi)[j]? = some u → (w3.alloc (.cells #[.int .i64 vi.tg, .int .i64 vi.sk, .int .i64 vi.tr.num, .int .i64 vi.tr.x, .int .i64 vi.tr.y, .int .i64 vi.tr.co, .int .i64 vi.tr.sp, .int .i64 vi.tr.st, .int .i64 vi.tr.ag] 113)).cell? ((⟨w3.heap.size, 0, none⟩ : Addr).add j) = some u from fun j u hj => new_cells _ (Ev vi) 113 j u hj)
                                have HVV := hide (Ev.one vi)
                                have HMX := hide (show Kp.length + 1 ≤ maxLen ∧ (Kp.length + 1) * 72 ≤ 140737488355328 by unfold maxLen; omega)
                                go_wp2_with (at_builtin; go_loud (refine wpList_append_own_at _ rfl (.tmp 350) (.tmp 358) 101 rfl wq.heap.size 113 i0 _ 9 72 Try.underlying101 HI.out.1 HI.out.2.1 HI.out.2.2.1 HI.out.2.2.2 rfl (by decide) (.slice ak Kp.length ck) Kp.length (Kp.flatMap Ev) rfl HR3.out _ 1 1 (Ev vi) rfl rfl HNC.out HVV.out HMX.out.1 HMX.out.2 HSZ.out ?_; intro v' w5 hown hgrow hnil hat; obtain ⟨g2, c2, rfl⟩ := own_some hown (by omega); have HOWN := hide hown; have HGROW := hide hgrow; have HAT := hide hat; clear hown hgrow hnil hat))
                                clear HNC HVV HMX
                                have HE5 := hide (bel_grownE HEA.out HR3.out HGROW.out)
                                have HR5 := hide (ERow.snoc HOWN.out)
                                clear HR3 HGROW HOWN HAT HEA HSZ q0 q1 q2 q3 q4 q5 q6 q7 q8 c0 HV3
                                go_wp2
                                first | refine HJ12.out _ _ ?rel (by kernel_rfl) rfl ?measure | refine HJ11.out _ _ ?rel (by kernel_rfl) rfl ?measure | refine HJ10.out _ _ ?rel (by kernel_rfl) rfl ?measure | refine HJ9.out _ _ ?rel (by kernel_rfl) rfl ?measure | refine HJ8.out _ _ ?rel (by kernel_rfl) rfl ?measure | refine HJ7.out _ _ ?rel (by kernel_rfl) rfl ?measure
                                case rel => (try dsimp only [rdA, getL]); (exact ⟨i + 1, some ⟨g2, 0, none⟩, c2, by omega, by simp, by rw [HXK.out, List.length_append]; rfl, by rw [HXK.out, List.length_append]; exact HR5.out, HE5.out⟩)
                                case measure => (try dsimp only [rdA, getL]); (simp [intOf]; omega)
                          · have hini : ¬ (i : Int) < (n1 : Int) := by omega
                            rw [List.take_of_length_le (by rw [HN1.out]; omega)] at HK ⊢
                            have HFL := hide (filt_lt (V := V1) (a := vx) HXM.out)
                            have HKV := hide (show ∀ s ∈ V1.filter (fun s => decide (keyP s ≠ keyP vx)), SltOk s from fun s hs => HVO.out s (List.mem_filter.1 hs).1)
                            have HRS := hide (show ∀ V', MRoom ng (V1.filter (fun s => decide (keyP s ≠ keyP vx))) V' → MRoom ng V V' from fun V' h => HRM.out V' (MRoom.step V1 V' vx (by rw [HN1.out]; omega) HXM.out HWV.out h))
                            replace HVr := hide (HVr.out.below HE.out)
                            replace HG := hide (HG.out.below HE.out)
                            replace HT := hide (HT.out.below HE.out)
                            replace HFr := hide (HFr.out.bel HMB.out HE.out)
                            have HKo := hide (show ERow wr w.heap.size (.slice ak (V1.filter (fun s => decide (keyP s ≠ keyP vx))).length ck) (V1.filter (fun s => decide (keyP s ≠ keyP vx))) from own_base HK.out (by have := HFr.out.ex.size; have := HE.out.size; have := HQW.out; omega))
                            obtain ⟨Kp, hKp⟩ : ∃ Kp, V1.filter (fun s => decide (keyP s ≠ keyP vx)) = Kp := ⟨_, rfl⟩
                            rw [hKp] at HK HKo HFL HKV HRS ⊢
                            clear hKp
                            have f0 := HVr.out.f
                            have HNO2 := hide (show ∀ g, (Value.slice ak Kp.length ck).ownBlock = some g → (Value.slice (some ⟨gg, 0, none⟩) ng cg).ownBlock ≠ some g ∧ (Value.slice ar nR cr).ownBlock ≠ some g from fun g e => by
                              have h1 := (HK.out.own e).1
                              exact ⟨fun e2 => by have := HGW.out g e2; omega, fun e2 => by have := HTW.out g e2; omega⟩)
                            have HPUT := hide (HVr.out.put HKo.out rfl)
                            replace HG := hide (HG.out.keep HPUT.out.2.ex (fun g e1 e2 => by have := (HG.out.own e1).1; have := HWI.out; have := HMB.out; omega))
                            replace HT := hide (HT.out.keep HPUT.out.2.ex (fun g e1 e2 => by have := (HT.out.own e1).1; have := HWI.out; have := HMB.out; omega))
                            replace HFr := hide (HFr.out.trans HPUT.out.2)
                            go_wp2
                            first | refine HJ12.out _ _ ?rel (by kernel_rfl) rfl ?measure | refine HJ11.out _ _ ?rel (by kernel_rfl) rfl ?measure | refine HJ10.out _ _ ?rel (by kernel_rfl) rfl ?measure | refine HJ9.out _ _ ?rel (by kernel_rfl) rfl ?measure | refine HJ8.out _ _ ?rel (by kernel_rfl) rfl ?measure | refine HJ7.out _ _ ?rel (by kernel_rfl) rfl ?measure
                            case rel => (try dsimp only [rdA, getL]); (exact ⟨Kp, ak, ck, HPUT.out.1, HG.out, HT.out, HFr.out, HNO2, HRS, HKV, by have := HFL.out; have := HN1.out; omega⟩)
                            case measure => (try dsimp only [rdA, getL]); (rw [HPUT.out.1.c0, HLV.out]; show Kp.length < n1; have := HFL.out; have := HN1.out; omega)
                  · have hfb : decide ((64 : Int) < (V1.length : Int) + (ng : Int)) = false := by simp; omega
                    have hfw : IntKind.i64.wrap ((V1.length : Int) + (ng : Int)) = (V1.length : Int) + (ng : Int) := by rw [IntKind.wrap_i64]; omega
                    go_upto_region 70 with fail
                    clear c0 hfb hfw
                    have HGa := hide (HG.out.aa HNG.out.symm)
                    have HGl := hide (show gg < wr.heap.size from (HG.out.own (g := gg) (by simp [Value.ownBlock])).2)
                    have HGi := hide (show wj.heap.size ≤ gg from (HG.out.own (g := gg) (by simp [Value.ownBlock])).1)
                    have HTG := hide (show (Value.slice ar nR cr).ownBlock ≠ some gg from fun e => HNE0.out gg (by simp [Value.ownBlock]) e)
                    have HGM := hide (show gg ≠ mb by have := HGi.out; have := HWI.out; have := HMB.out; omega)
                    have HTM := hide (show (Value.slice ar nR cr).ownBlock ≠ some mb from fun e => by have := (HT.out.own e).1; have := HWI.out; have := HMB.out; omega)
                    have hU0 : V1.length + ng ≤ 64 := by omega
                    have HNV := hide (show ∀ g, (Value.slice av V1.length cv).ownBlock = some g → gg ≠ g ∧ (Value.slice ar nR cr).ownBlock ≠ some g from fun g e => ⟨fun e2 => (HNO.out g e).1 (by rw [← e2]; simp [Value.ownBlock]), (HNO.out g e).2⟩)
                    clear HNO hfull
                    go_wp2
                    refine wp_loop_mix [none, none, none, none, none, none, none, none, none, none, none, none, none, none, none, none, none, none, none, none, none, none, none, none, none, none, none, none, none, none, none, none, none, some 33, none, none, none, none, none, none, none, none, none, none, none, none, none, none, none, none, none, none, none, none, none, none, none, none, none, none, none, none, none, none, none, none, none, none, none, none, none, none, none, none, none, none, none, none, none, none, none, none, none, none, none, none, none, none, none, none, none, none, none, none, none, none, none, none, none, none, none, none, none, none, none, none, none, none, none, none, none, none, none, none, none, none, none, none, none, none, none, none, none, none, none, none, none, none, none, none, none, none, none, none, none, none, none, none, none, none, none, none, none, none, none, none, none, none, none, none, none, none, none, none, none, none, none, none, none, none, none, none, none, none, none, none, none, none, none, none, none, none, none, none, none, none, none, none, none, none, none, none, none, none, none, none, none, none, none, none, none, none, none, none, none, none, none, none, none, none, none, none, none, none, none, none, none, none, none, none, none, none, none, none, none, none, none, none, none, none, none, none, none, none, none, none, none, none, none, none, none, none, none, none, none, none, none, none, none, none, none, none, none, none, none, none, none, none, none, none, none, none, none, none, none, none, none, none, none, none, none, none, none, none, none, none, none, none, none, none, none, none, none, none, none, none, none, none, none, none, none, none, none, none, none, none, none, none, none, none, none, none, none, none, none, none, none, none, none, none, none, none, none, none, none, none, none, none, none, none, none, none, none, none, none, none, none, none, none, none, none, none, none, none, none, none, none, none, none, none, none, none, none, none, none, none, none, none, none, none, none, none, none, none, none, none, none, none, none, none, none, none, none, none, none, none, none, none, none, none, none, none, none, none, some 364, some 365, some 366, some 367, some 368, some 369, some 370, some 371, some 372, some 373, some 374, some 375, some 376, some 377, some 378, some 379, some 380, some 381, some 382, some 383, some 384, some 385, some 386, some 387, some 388, some 389, some 390, some 391, some 392, some 393, some 394, some 395, some 396, some 397, some 398] (by kernel_rfl) (fun us wy => (fun s33 wx => ∃ (i : Nat) (av : Option Addr) (cv : Nat), i ≤ ng ∧ s33 = .int .i64 i ∧ AA wx gg ng (fun k => if k < i then numd (atM G k) (nc + (k : Int)) else atM G k) ∧ VA wx mb o w.heap.size av (V1 ++ numL (G.take i) nc).length cv (V1 ++ numL (G.take i) nc) (nc + (i : Int)) ∧ ERow wx wj.heap.size (.slice ar nR cr) R ∧ Fr mb o 2 w wx ∧ Hid (∀ g, (Value.slice av (V1 ++ numL (G.take i) nc).length cv).ownBlock = some g → gg ≠ g ∧ (Value.slice ar nR cr).ownBlock ≠ some g) ∧ gg < wx.heap.size) (us 33) wy) (fun us wy => (fun s33 _ => ng - (intOf s33).toNat) (us 33) wy) ?atStart ?round
                    case atStart => (dsimp only [getL]; exact ⟨0, av, cv, by omega, rfl, HGa.out.congr (fun k _ => by rw [if_neg (by omega)]), by simp [numL]; exact HVr.out, HT.out, HFr.out, hide (by simp [numL]; exact HNV.out), HGl.out⟩)
                    case round =>
                      intro us wr hrel J13 hJ13
                      dsimp only at hrel hJ13
                      dsimp only [mixF]
                      generalize us 33 = s33 at hrel hJ13 ⊢
                      have HJ13 := hide hJ13
                      clear hJ13
                      clear HGa HVr HT HFr HNV HGl
                      obtain ⟨i, av, cv, hi, rfl, haa, hva, ht, hfr, HNE, hgl⟩ := hrel
                      have HA := hide haa
                      have HVr := hide hva
                      have HT := hide ht
                      have HFr := hide hfr
                      have HGl := hide hgl
                      clear haa hva ht hfr hgl
                      by_cases hin : i < ng
                      · have hini : (i : Int) < (ng : Int) := by omega
                        have hi0' : decide ((i : Int) < 0) = false := by simp
                        obtain ⟨gi, hgi⟩ : ∃ s, G[i]? = some s := ⟨_, List.getElem?_eq_getElem (by have := HNG.out; omega)⟩
                        have HXU := hide (show V1 ++ numL (G.take (i + 1)) nc = (V1 ++ numL (G.take i) nc) ++ [numd gi (nc + (i : Int))] by rw [numL_take hgi, List.append_assoc])
                        have hUl : (V1 ++ numL (G.take i) nc).length ≤ 64 := by rw [List.length_append, numL_len, List.length_take]; omega
                        obtain ⟨U, hU⟩ : ∃ U, V1 ++ numL (G.take i) nc = U := ⟨_, rfl⟩
                        rw [hU] at HVr HNE HXU hUl
                        clear hU
                        have hni : IntKind.i64.wrap (nc + (i : Int) + 1) = nc + (i : Int) + 1 := by rw [IntKind.wrap_i64]; omega
                        have y2 := (HA.out.c i hin).c 2 _ rfl
                        have fa := HA.out.f
                        have c1 := HVr.out.c1
                        have c0 := HVr.out.c0
                        have f0 := HVr.out.f
                        go_upto_region 74 with fail
                        have HN1 := hide (HA.out.num HGl.out hin (nc + (i : Int)))
                        replace HVr := hide (HVr.out.keep HN1.out.2 (Ne.symm HGM.out) (.inr (fun e => (HNE.out gg e).1 rfl)))
                        replace HT := hide (HT.out.keep HN1.out.2.ex (fun g e1 e2 => HTG.out (by rw [← e2]; exact e1)))
                        replace HFr := hide (HFr.out.other HMB.out HN1.out.2 (by have := HGi.out; have := HWI.out; omega))
                        replace HGl := hide (Nat.lt_of_lt_of_le HGl.out HN1.out.2.ex.size)
                        clear HA y2 fa c1 c0 f0
                        generalize World.setCell _ ⟨gg, i * 9 + 2, none⟩ (.int .i64 (nc + (i : Int))) = wb at *
                        have c1 := HVr.out.c1
                        have f0 := HVr.out.f
                        go_upto_region 75 with fail
                        have HN2 := hide (HVr.out.next (nc + (i : Int) + 1))
                        have HA2 := hide (HN1.out.1.keep HGl.out HN2.out.2 HGM.out)
                        replace HT := hide (HT.out.keep HN2.out.2.ex (fun g e1 e2 => HTM.out (by rw [← e2]; exact e1)))
                        replace HFr := hide (HFr.out.trans HN2.out.2)
                        replace HGl := hide (Nat.lt_of_lt_of_le HGl.out HN2.out.2.ex.size)
                        replace HVr := hide HN2.out.1
                        clear HN1 HN2 c1 f0
                        have HA := HA2
                        clear HA2
                        generalize wb.setCell ⟨mb, o + 1, none⟩ (.int .i64 (nc + (i : Int) + 1)) = wx at *
                        obtain ⟨si, hsi⟩ : ∃ s, numd gi (nc + (i : Int)) = s := ⟨_, rfl⟩
                        rw [hsi] at HXU
                        have HSI := hide (show upd (fun k => if k < i then numd (atM G k) (nc + (k : Int)) else atM G k) i (numd (if i < i then numd (atM G i) (nc + (i : Int)) else atM G i) (nc + (i : Int))) i = si by rw [upd_same, if_neg (by omega), atM_get hgi, hsi])
                        have HAS := hide (show ∀ k, upd (fun k => if k < i then numd (atM G k) (nc + (k : Int)) else atM G k) i (numd (if i < i then numd (atM G i) (nc + (i : Int)) else atM G i) (nc + (i : Int))) k = (if k < i + 1 then numd (atM G k) (nc + (k : Int)) else atM G k) from fun k => by
                          by_cases e : k = i
                          · subst e; rw [upd_same, if_neg (by omega), if_pos (by omega)]
                          · rw [upd_ne _ _ e]
                            by_cases z : k < i
                            · rw [if_pos z, if_pos (by omega)]
                            · rw [if_neg z, if_neg (by omega)])
                        clear hsi hgi hni
                        have zS := (HA.out.c i hin).drew
                        rw [HSI.out] at zS
                        have c0 := HVr.out.c0
                        have cA := cellKeep (be1 wx (.cells #[.int .i64 si.tg, .int .i64 si.sk, .int .i64 si.tr.num, .int .i64 si.tr.x, .int .i64 si.tr.y, .int .i64 si.tr.co, .int .i64 si.tr.sp, .int .i64 si.tr.st, .int .i64 si.tr.ag] 113)) c0
                        have zSA := ((HA.out.below HGl.out (be1 wx (.cells #[.int .i64 si.tg, .int .i64 si.sk, .int .i64 si.tr.num, .int .i64 si.tr.x, .int .i64 si.tr.y, .int .i64 si.tr.co, .int .i64 si.tr.sp, .int .i64 si.tr.st, .int .i64 si.tr.ag] 113))).dr).c i hin
                        rw [HSI.out] at zSA
                        refine wp_region_held_drew (S := fun w' => RA w' gg (i * 9) (Ev si)) (by kernel_rfl) zS (fun hHeld => ?_)
                        refine wpAnyH_take (i := 0) (v := ?_) rfl (by kernel_rfl) (by kernel_rfl) (by kernel_rfl) (fun _ _ _ h => h) (Or.inl ⟨by rfl, ?_⟩) (by assumption) ?_
                        rotate_left
                        · (intro w hSw; (try dsimp only at hSw); go_simp; try (with_reducible rfl))
                        try simp only [Act.put, List.getElem_toArray, List.getElem_cons_zero, List.getElem_cons_succ, List.setIfInBounds_toArray, List.set_cons_zero, List.set_cons_succ]
                        refine wpAnyH_take (i := 1) (v := ?_) rfl (by kernel_rfl) (by kernel_rfl) (by kernel_rfl) (fun _ _ _ h => h) (Or.inl ⟨by rfl, ?_⟩) (by assumption) ?_
                        rotate_left
                        · (intro w hSw; (try dsimp only at hSw); go_simp; try (with_reducible rfl))
                        try simp only [Act.put, List.getElem_toArray, List.getElem_cons_zero, List.getElem_cons_succ, List.setIfInBounds_toArray, List.set_cons_zero, List.set_cons_succ]
                        refine wpAnyH_take (i := 2) (v := ?_) rfl (by kernel_rfl) (by kernel_rfl) (by kernel_rfl) (fun _ _ _ h => h) (Or.inl ⟨by rfl, ?_⟩) (by assumption) ?_
                        rotate_left
                        · (intro w hSw; (try dsimp only at hSw); go_simp; try (with_reducible rfl))
                        try simp only [Act.put, List.getElem_toArray, List.getElem_cons_zero, List.getElem_cons_succ, List.setIfInBounds_toArray, List.set_cons_zero, List.set_cons_succ]
                        refine wpAnyH_take (i := 3) (v := ?_) rfl (by kernel_rfl) (by kernel_rfl) (by kernel_rfl) (fun _ _ _ h => h) (Or.inl ⟨by rfl, ?_⟩) (by assumption) ?_
                        rotate_left
                        · (intro w hSw; (try dsimp only at hSw); go_simp; try (with_reducible rfl))
                        try simp only [Act.put, List.getElem_toArray, List.getElem_cons_zero, List.getElem_cons_succ, List.setIfInBounds_toArray, List.set_cons_zero, List.set_cons_succ]
                        refine wpAnyH_take (i := 5) (v := ?_) rfl (by kernel_rfl) (by kernel_rfl) (by kernel_rfl) (fun _ _ _ h => h) (Or.inl ⟨by rfl, ?_⟩) (by assumption) ?_
                        rotate_left
                        · (intro w hSw; (try dsimp only at hSw); go_simp; try (with_reducible rfl))
                        try simp only [Act.put, List.getElem_toArray, List.getElem_cons_zero, List.getElem_cons_succ, List.setIfInBounds_toArray, List.set_cons_zero, List.set_cons_succ]
                        refine wpAnyH_take (i := 6) (v := ?_) rfl (by kernel_rfl) (by kernel_rfl) (by kernel_rfl) (fun _ _ _ h => h) (Or.inl ⟨by rfl, ?_⟩) (by assumption) ?_
                        rotate_left
                        · (intro w hSw; (try dsimp only at hSw); go_simp; try (with_reducible rfl))
                        try simp only [Act.put, List.getElem_toArray, List.getElem_cons_zero, List.getElem_cons_succ, List.setIfInBounds_toArray, List.set_cons_zero, List.set_cons_succ]
                        refine wpAnyH_take (i := 7) (v := ?_) rfl (by kernel_rfl) (by kernel_rfl) (by kernel_rfl) (fun _ _ _ h => h) (Or.inl ⟨by rfl, ?_⟩) (by assumption) ?_
                        rotate_left
                        · (intro w hSw; (try dsimp only at hSw); go_simp; try (with_reducible rfl))
                        try simp only [Act.put, List.getElem_toArray, List.getElem_cons_zero, List.getElem_cons_succ, List.setIfInBounds_toArray, List.set_cons_zero, List.set_cons_succ]
                        refine wpAnyH_take (i := 8) (v := ?_) rfl (by kernel_rfl) (by kernel_rfl) (by kernel_rfl) (fun _ _ _ h => h) (Or.inl ⟨by rfl, ?_⟩) (by assumption) ?_
                        rotate_left
                        · (intro w hSw; (try dsimp only at hSw); ((obtain ⟨z0, z1, z2, z3, z4, z5, z6, z7, z8⟩ := hSw.ee)); go_simp; try (with_reducible rfl))
                        try simp only [Act.put, List.getElem_toArray, List.getElem_cons_zero, List.getElem_cons_succ, List.setIfInBounds_toArray, List.set_cons_zero, List.set_cons_succ]
                        refine wpAnyH_ready (rs := [4, 9]) (by kernel_rfl) (by simp) ?_
                        refine (AllReadyH.cons rfl (fun K hK => ?_) (AllReadyH.cons rfl (fun K hK => ?_) AllReadyH.nil))
                        · go_simp
                          refine hK.out _ _ ?_ (fun hHeld => ?_)
                          · (first | with_reducible exact zS | with_reducible exact zSA | with_reducible exact zS2 | with_reducible exact zS3)
                          clear hK K
                          try simp only [Act.put, List.getElem_toArray, List.getElem_cons_zero, List.getElem_cons_succ, List.setIfInBounds_toArray, List.set_cons_zero, List.set_cons_succ]
                          refine wpAnyH_ready (rs := [9]) (by kernel_rfl) (by simp) ?_
                          refine (AllReadyH.cons rfl (fun K hK => ?_) AllReadyH.nil)
                          · go_simp
                            have HVA := hide ((HVr.out.below (be1 wx (.cells #[.int .i64 si.tg, .int .i64 si.sk, .int .i64 si.tr.num, .int .i64 si.tr.x, .int .i64 si.tr.y, .int .i64 si.tr.co, .int .i64 si.tr.sp, .int .i64 si.tr.st, .int .i64 si.tr.ag] 113))).below (dr_bel _))
                            have HAB := hide ((HA.out.below HGl.out (be1 wx (.cells #[.int .i64 si.tg, .int .i64 si.sk, .int .i64 si.tr.num, .int .i64 si.tr.x, .int .i64 si.tr.y, .int .i64 si.tr.co, .int .i64 si.tr.sp, .int .i64 si.tr.st, .int .i64 si.tr.ag] 113))).dr)
                            have HTB := hide ((HT.out.below (be1 wx (.cells #[.int .i64 si.tg, .int .i64 si.sk, .int .i64 si.tr.num, .int .i64 si.tr.x, .int .i64 si.tr.y, .int .i64 si.tr.co, .int .i64 si.tr.sp, .int .i64 si.tr.st, .int .i64 si.tr.ag] 113))).below (dr_bel _))
                            have HGB := hide (Nat.lt_of_lt_of_le HGl.out (be1 wx (.cells #[.int .i64 si.tg, .int .i64 si.sk, .int .i64 si.tr.num, .int .i64 si.tr.x, .int .i64 si.tr.y, .int .i64 si.tr.co, .int .i64 si.tr.sp, .int .i64 si.tr.st, .int .i64 si.tr.ag] 113)).size)
                            have HFB := hide ((HFr.out.bel HMB.out (be1 wx (.cells #[.int .i64 si.tg, .int .i64 si.sk, .int .i64 si.tr.num, .int .i64 si.tr.x, .int .i64 si.tr.y, .int .i64 si.tr.co, .int .i64 si.tr.sp, .int .i64 si.tr.st, .int .i64 si.tr.ag] 113))).bel HMB.out (dr_bel _))
                            have HSZ := hide (show w.heap.size ≤ (wx.alloc (.cells #[.int .i64 si.tg, .int .i64 si.sk, .int .i64 si.tr.num, .int .i64 si.tr.x, .int .i64 si.tr.y, .int .i64 si.tr.co, .int .i64 si.tr.sp, .int .i64 si.tr.st, .int .i64 si.tr.ag] 113)).drew.heap.size from HFB.out.ex.size)
                            refine hK.out _ _ ?_ (fun hHeld => ?_)
                            · (first | with_reducible exact zS | with_reducible exact zSA | with_reducible exact zS2 | with_reducible exact zS3)
                            clear hK K
                            try simp only [Act.put, List.getElem_toArray, List.getElem_cons_zero, List.getElem_cons_succ, List.setIfInBounds_toArray, List.set_cons_zero, List.set_cons_succ]
                            refine wpAnyH_ready (rs := [10]) (by kernel_rfl) (by simp) ?_
                            refine (AllReadyH.cons rfl (fun K hK => ?_) AllReadyH.nil)
                            · refine step_append_lies _ rfl (.tmp 390) (.tmp 395) 101 rfl w.heap.size 113 i0 _ 9 72 Try.underlying101 HI.out.1 HI.out.2.1 HI.out.2.2.1 HI.out.2.2.2 rfl (by decide) (.slice av U.length cv) U.length (U.flatMap Ev) rfl HVA.out.row ⟨wx.heap.size, 0, none⟩ 1 1 (Ev si) rfl rfl (fun j u hj => new_cells wx (Ev si) 113 j u hj) (Ev.one si) (by decide) (by unfold maxLen; omega) (by omega) HSZ.out _ rfl ?_
                              intro g2 cap2 w2 hr hg hat hlt2
                              have HNE2 := hide (show ∀ g, (Value.slice (some ⟨g2, 0, none⟩) (U.length + 1) cap2).ownBlock = some g → gg ≠ g ∧ (Value.slice ar nR cr).ownBlock ≠ some g from fun g e => by
                                have e2 : g2 = g := by simpa [Value.ownBlock] using e
                                rcases hat with z | z
                                · exact HNE.out g (by rw [← e2]; exact z)
                                · have hs : wx.heap.size < g := by rw [← e2, z]; simp
                                  exact ⟨by have := HGl.out; omega, fun e3 => by have := (HT.out.own e3).2; omega⟩)
                              have HEX := hide (Ex.ofGrown (S := fun k => (Value.slice av U.length cv).ownBlock = some k) hg (fun k e => e.symm))
                              have HA2 := hide (HAB.out.ex HGB.out HEX.out (fun e => (HNE.out gg e).1 rfl))
                              have HT2 := hide (HTB.out.keep HEX.out (fun g e1 e2 => (HNE.out g e2).2 e1))
                              have HF2 := hide (HFB.out.grown HMB.out hg (fun k e => (HVA.out.row.own e).1))
                              have HR2 := hide (ERow.snoc hr)
                              have HVP := hide (HVA.out.push HR2.out (by simp) hg)
                              obtain ⟨d0, d1, df⟩ := HVA.out.kept HVA.out.nown hg
                              have HG2 := hide (Nat.lt_of_lt_of_le HGB.out hg.size)
                              have zS2 := HA2.out.c i hin
                              rw [HSI.out] at zS2
                              clear hr hg hat hlt2 HEX
                              refine hK.out _ _ ?_ (fun hHeld => ?_)
                              · (first | with_reducible exact zS | with_reducible exact zSA | with_reducible exact zS2 | with_reducible exact zS3)
                              clear hK K
                              try simp only [Act.put, List.getElem_toArray, List.getElem_cons_zero, List.getElem_cons_succ, List.setIfInBounds_toArray, List.set_cons_zero, List.set_cons_succ]
                              refine wpAnyH_take (i := 11) (v := ?_) rfl (by kernel_rfl) (by kernel_rfl) (by kernel_rfl) (fun _ _ _ h => h) (Or.inl ⟨by rfl, ?_⟩) (by assumption) ?_
                              rotate_left
                              · (intro w hSw; (try dsimp only at hSw); go_simp; try (with_reducible rfl))
                              try simp only [Act.put, List.getElem_toArray, List.getElem_cons_zero, List.getElem_cons_succ, List.setIfInBounds_toArray, List.set_cons_zero, List.set_cons_succ]
                              refine wpAnyH_take (i := 12) (v := ?_) rfl (by kernel_rfl) (by kernel_rfl) (by kernel_rfl) (fun _ _ _ h => h) (Or.inl ⟨by rfl, ?_⟩) (by assumption) ?_
                              rotate_left
                              · (intro w hSw; (try dsimp only at hSw); go_simp; try (with_reducible rfl))
                              try simp only [Act.put, List.getElem_toArray, List.getElem_cons_zero, List.getElem_cons_succ, List.setIfInBounds_toArray, List.set_cons_zero, List.set_cons_succ]
                              refine wpAnyH_ready (rs := [13]) (by kernel_rfl) (by simp) ?_
                              refine (AllReadyH.cons rfl (fun K hK => ?_) AllReadyH.nil)
                              · go_simp
                                have HFS := hide ((Fr.refl mb o 2 w2).set (j := o) (by omega) (by omega) (.slice (some ⟨g2, 0, none⟩) (U.length + 1) cap2))
                                have HF3 := hide (HF2.out.set (j := o) (by omega) (by omega) (.slice (some ⟨g2, 0, none⟩) (U.length + 1) cap2))
                                have HA3 := hide (HA2.out.keep HG2.out HFS.out HGM.out)
                                have HT3 := hide (HT2.out.keep HFS.out.ex (fun g e1 e2 => HTM.out (by rw [← e2]; exact e1)))
                                have HG3 := hide (Nat.lt_of_lt_of_le HG2.out HFS.out.ex.size)
                                have zS3 := HA3.out.c i hin
                                rw [HSI.out] at zS3
                                clear d0 d1 df
                                refine hK.out _ _ ?_ (fun hHeld => ?_)
                                · (first | with_reducible exact zS | with_reducible exact zSA | with_reducible exact zS2 | with_reducible exact zS3)
                                clear hK K
                                try simp only [Act.put, List.getElem_toArray, List.getElem_cons_zero, List.getElem_cons_succ, List.setIfInBounds_toArray, List.set_cons_zero, List.set_cons_succ]
                                refine wpAnyH_done (by kernel_rfl) ?_ _
                                clear zS zS2 zS3
                                go_wp2
                                first | refine HJ13.out _ _ ?rel (by kernel_rfl) rfl ?measure | refine HJ10.out _ _ ?rel (by kernel_rfl) rfl ?measure | refine HJ9.out _ _ ?rel (by kernel_rfl) rfl ?measure | refine HJ8.out _ _ ?rel (by kernel_rfl) rfl ?measure | refine HJ7.out _ _ ?rel (by kernel_rfl) rfl ?measure
                                case rel => (try dsimp only [rdA, getL]); (exact ⟨i + 1, some ⟨g2, 0, none⟩, cap2, by omega, by simp, HA3.out.congr (fun k _ => HAS.out k), by rw [HXU.out, List.length_append, show nc + ((i + 1 : Nat) : Int) = nc + (i : Int) + 1 by omega]; exact HVP.out, HT3.out, HF3.out, hide (by rw [HXU.out, List.length_append]; exact HNE2.out), HG3.out⟩)
                                case measure => (try dsimp only [rdA, getL]); (simp [intOf]; omega)
                        · go_simp
                          have HVA := hide ((HVr.out.below (be1 wx (.cells #[.int .i64 si.tg, .int .i64 si.sk, .int .i64 si.tr.num, .int .i64 si.tr.x, .int .i64 si.tr.y, .int .i64 si.tr.co, .int .i64 si.tr.sp, .int .i64 si.tr.st, .int .i64 si.tr.ag] 113))).below (dr_bel _))
                          have HAB := hide ((HA.out.below HGl.out (be1 wx (.cells #[.int .i64 si.tg, .int .i64 si.sk, .int .i64 si.tr.num, .int .i64 si.tr.x, .int .i64 si.tr.y, .int .i64 si.tr.co, .int .i64 si.tr.sp, .int .i64 si.tr.st, .int .i64 si.tr.ag] 113))).dr)
                          have HTB := hide ((HT.out.below (be1 wx (.cells #[.int .i64 si.tg, .int .i64 si.sk, .int .i64 si.tr.num, .int .i64 si.tr.x, .int .i64 si.tr.y, .int .i64 si.tr.co, .int .i64 si.tr.sp, .int .i64 si.tr.st, .int .i64 si.tr.ag] 113))).below (dr_bel _))
                          have HGB := hide (Nat.lt_of_lt_of_le HGl.out (be1 wx (.cells #[.int .i64 si.tg, .int .i64 si.sk, .int .i64 si.tr.num, .int .i64 si.tr.x, .int .i64 si.tr.y, .int .i64 si.tr.co, .int .i64 si.tr.sp, .int .i64 si.tr.st, .int .i64 si.tr.ag] 113)).size)
                          have HFB := hide ((HFr.out.bel HMB.out (be1 wx (.cells #[.int .i64 si.tg, .int .i64 si.sk, .int .i64 si.tr.num, .int .i64 si.tr.x, .int .i64 si.tr.y, .int .i64 si.tr.co, .int .i64 si.tr.sp, .int .i64 si.tr.st, .int .i64 si.tr.ag] 113))).bel HMB.out (dr_bel _))
                          have HSZ := hide (show w.heap.size ≤ (wx.alloc (.cells #[.int .i64 si.tg, .int .i64 si.sk, .int .i64 si.tr.num, .int .i64 si.tr.x, .int .i64 si.tr.y, .int .i64 si.tr.co, .int .i64 si.tr.sp, .int .i64 si.tr.st, .int .i64 si.tr.ag] 113)).drew.heap.size from HFB.out.ex.size)
                          refine hK.out _ _ ?_ (fun hHeld => ?_)
                          · (first | with_reducible exact zS | with_reducible exact zSA | with_reducible exact zS2 | with_reducible exact zS3)
                          clear hK K
                          try simp only [Act.put, List.getElem_toArray, List.getElem_cons_zero, List.getElem_cons_succ, List.setIfInBounds_toArray, List.set_cons_zero, List.set_cons_succ]
                          refine wpAnyH_ready (rs := [4]) (by kernel_rfl) (by simp) ?_
                          refine (AllReadyH.cons rfl (fun K hK => ?_) AllReadyH.nil)
                          · go_simp
                            refine hK.out _ _ ?_ (fun hHeld => ?_)
                            · (first | with_reducible exact zS | with_reducible exact zSA | with_reducible exact zS2 | with_reducible exact zS3)
                            clear hK K
                            try simp only [Act.put, List.getElem_toArray, List.getElem_cons_zero, List.getElem_cons_succ, List.setIfInBounds_toArray, List.set_cons_zero, List.set_cons_succ]
                            refine wpAnyH_ready (rs := [10]) (by kernel_rfl) (by simp) ?_
                            refine (AllReadyH.cons rfl (fun K hK => ?_) AllReadyH.nil)
                            · refine step_append_lies _ rfl (.tmp 390) (.tmp 395) 101 rfl w.heap.size 113 i0 _ 9 72 Try.underlying101 HI.out.1 HI.out.2.1 HI.out.2.2.1 HI.out.2.2.2 rfl (by decide) (.slice av U.length cv) U.length (U.flatMap Ev) rfl HVA.out.row ⟨wx.heap.size, 0, none⟩ 1 1 (Ev si) rfl rfl (fun j u hj => new_cells wx (Ev si) 113 j u hj) (Ev.one si) (by decide) (by unfold maxLen; omega) (by omega) HSZ.out _ rfl ?_
                              intro g2 cap2 w2 hr hg hat hlt2
                              have HNE2 := hide (show ∀ g, (Value.slice (some ⟨g2, 0, none⟩) (U.length + 1) cap2).ownBlock = some g → gg ≠ g ∧ (Value.slice ar nR cr).ownBlock ≠ some g from fun g e => by
                                have e2 : g2 = g := by simpa [Value.ownBlock] using e
                                rcases hat with z | z
                                · exact HNE.out g (by rw [← e2]; exact z)
                                · have hs : wx.heap.size < g := by rw [← e2, z]; simp
                                  exact ⟨by have := HGl.out; omega, fun e3 => by have := (HT.out.own e3).2; omega⟩)
                              have HEX := hide (Ex.ofGrown (S := fun k => (Value.slice av U.length cv).ownBlock = some k) hg (fun k e => e.symm))
                              have HA2 := hide (HAB.out.ex HGB.out HEX.out (fun e => (HNE.out gg e).1 rfl))
                              have HT2 := hide (HTB.out.keep HEX.out (fun g e1 e2 => (HNE.out g e2).2 e1))
                              have HF2 := hide (HFB.out.grown HMB.out hg (fun k e => (HVA.out.row.own e).1))
                              have HR2 := hide (ERow.snoc hr)
                              have HVP := hide (HVA.out.push HR2.out (by simp) hg)
                              obtain ⟨d0, d1, df⟩ := HVA.out.kept HVA.out.nown hg
                              have HG2 := hide (Nat.lt_of_lt_of_le HGB.out hg.size)
                              have zS2 := HA2.out.c i hin
                              rw [HSI.out] at zS2
                              clear hr hg hat hlt2 HEX
                              refine hK.out _ _ ?_ (fun hHeld => ?_)
                              · (first | with_reducible exact zS | with_reducible exact zSA | with_reducible exact zS2 | with_reducible exact zS3)
                              clear hK K
                              try simp only [Act.put, List.getElem_toArray, List.getElem_cons_zero, List.getElem_cons_succ, List.setIfInBounds_toArray, List.set_cons_zero, List.set_cons_succ]
                              refine wpAnyH_take (i := 11) (v := ?_) rfl (by kernel_rfl) (by kernel_rfl) (by kernel_rfl) (fun _ _ _ h => h) (Or.inl ⟨by rfl, ?_⟩) (by assumption) ?_
                              rotate_left
                              · (intro w hSw; (try dsimp only at hSw); go_simp; try (with_reducible rfl))
                              try simp only [Act.put, List.getElem_toArray, List.getElem_cons_zero, List.getElem_cons_succ, List.setIfInBounds_toArray, List.set_cons_zero, List.set_cons_succ]
                              refine wpAnyH_take (i := 12) (v := ?_) rfl (by kernel_rfl) (by kernel_rfl) (by kernel_rfl) (fun _ _ _ h => h) (Or.inl ⟨by rfl, ?_⟩) (by assumption) ?_
                              rotate_left
                              · (intro w hSw; (try dsimp only at hSw); go_simp; try (with_reducible rfl))
                              try simp only [Act.put, List.getElem_toArray, List.getElem_cons_zero, List.getElem_cons_succ, List.setIfInBounds_toArray, List.set_cons_zero, List.set_cons_succ]
                              refine wpAnyH_ready (rs := [13]) (by kernel_rfl) (by simp) ?_
                              refine (AllReadyH.cons rfl (fun K hK => ?_) AllReadyH.nil)
                              · go_simp
                                have HFS := hide ((Fr.refl mb o 2 w2).set (j := o) (by omega) (by omega) (.slice (some ⟨g2, 0, none⟩) (U.length + 1) cap2))
                                have HF3 := hide (HF2.out.set (j := o) (by omega) (by omega) (.slice (some ⟨g2, 0, none⟩) (U.length + 1) cap2))
                                have HA3 := hide (HA2.out.keep HG2.out HFS.out HGM.out)
                                have HT3 := hide (HT2.out.keep HFS.out.ex (fun g e1 e2 => HTM.out (by rw [← e2]; exact e1)))
                                have HG3 := hide (Nat.lt_of_lt_of_le HG2.out HFS.out.ex.size)
                                have zS3 := HA3.out.c i hin
                                rw [HSI.out] at zS3
                                clear d0 d1 df
                                refine hK.out _ _ ?_ (fun hHeld => ?_)
                                · (first | with_reducible exact zS | with_reducible exact zSA | with_reducible exact zS2 | with_reducible exact zS3)
                                clear hK K
                                try simp only [Act.put, List.getElem_toArray, List.getElem_cons_zero, List.getElem_cons_succ, List.setIfInBounds_toArray, List.set_cons_zero, List.set_cons_succ]
                                refine wpAnyH_done (by kernel_rfl) ?_ _
                                clear zS zS2 zS3
                                go_wp2
                                first | refine HJ13.out _ _ ?rel (by kernel_rfl) rfl ?measure | refine HJ10.out _ _ ?rel (by kernel_rfl) rfl ?measure | refine HJ9.out _ _ ?rel (by kernel_rfl) rfl ?measure | refine HJ8.out _ _ ?rel (by kernel_rfl) rfl ?measure | refine HJ7.out _ _ ?rel (by kernel_rfl) rfl ?measure
                                case rel => (try dsimp only [rdA, getL]); (exact ⟨i + 1, some ⟨g2, 0, none⟩, cap2, by omega, by simp, HA3.out.congr (fun k _ => HAS.out k), by rw [HXU.out, List.length_append, show nc + ((i + 1 : Nat) : Int) = nc + (i : Int) + 1 by omega]; exact HVP.out, HT3.out, HF3.out, hide (by rw [HXU.out, List.length_append]; exact HNE2.out), HG3.out⟩)
                                case measure => (try dsimp only [rdA, getL]); (simp [intOf]; omega)
                      · have hini : ¬ (i : Int) < (ng : Int) := by omega
                        have hie : i = ng := by omega
                        subst hie
                        rw [List.take_of_length_le (by rw [HNG.out]; omega)] at HVr HNE
                        have HCN := hide (show ∀ V' n', MAdm R (V1 ++ numL G nc) (nc + (i : Int)) V' n' → MAdm F0 V0 nx V' n' from fun V' n' h => HC.out V' n' (HGRP.out V1 V' n' (HRM.out V1 (MRoom.stop V1 (by omega))) h))
                        have HVO2 := hide (show ∀ s ∈ V1 ++ numL G nc, SltOk s from fun s hs => by
                          rcases List.mem_append.1 hs with z | z
                          · exact HVO.out s z
                          · obtain ⟨k, u, hu, rfl⟩ := numL_mem.1 z
                            have hkl := (List.getElem?_eq_some_iff.1 hu).1
                            rw [HNG.out] at hkl
                            exact numd_ok (HFO.out u (HGF.out u (List.mem_of_getElem? hu))) ⟨by omega, by omega⟩)
                        have hl2 : (V1 ++ numL G nc).length ≤ 64 := by rw [List.length_append, numL_len, HNG.out]; omega
                        have hnr := HNR2.out
                        have HTw := hide (show ERow wr w.heap.size (.slice ar nR cr) R from own_base HT.out HWI.out)
                        clear HT
                        rw [← HNR.out] at HTw hnr hRlt ⊢
                        go_wp2
                        first | refine HJ13.out _ _ ?rel (by kernel_rfl) rfl ?measure | refine HJ10.out _ _ ?rel (by kernel_rfl) rfl ?measure | refine HJ9.out _ _ ?rel (by kernel_rfl) rfl ?measure | refine HJ8.out _ _ ?rel (by kernel_rfl) rfl ?measure | refine HJ7.out _ _ ?rel (by kernel_rfl) rfl ?measure
                        case rel => (try dsimp only [rdA, getL]); (exact ⟨R, V1 ++ numL G nc, nc + (i : Int), ar, cr, av, cv, rfl, HTw.out, HVr.out, HFr.out, HCN, hide (fun s hs => HFO.out s (HRF.out s hs)), HVO2, by omega, hl2, by omega⟩)
                        case measure => (try dsimp only [rdA, getL]); (simp [lenV]; have := HNF.out; omega)
end Go.Proofs.Qxb6500777a
