import Derived.Test.Qxb6500784aMix
import Derived.Test.Qxb6500784aSh3
import Derived.Test.Qxb6500784aLw
namespace Go.Proofs.Qxb6500784a
open Go.RowKit

theorem rot3 (a0 : Int) : ∃ RR : Int → Int, Hid ((rot 4 1073741824 a0 = RR 2 ∧ rot 8192 524288 a0 = RR 13 ∧ rot 4194304 1024 a0 = RR 22) ∧ ∀ (n : Int) (w : World), (n = 2 ∨ n = 13 ∨ n = 22) → Calls Try.prog 82 #[.int .u64 n, .int .u32 a0] w fun e w' => e = .returned (.int .u32 (RR n)) ∧ w' = w) := by
  refine ⟨fun n => if n = 2 then rot 4 1073741824 a0 else if n = 13 then rot 8192 524288 a0 else rot 4194304 1024 a0, ⟨?_, ?_, ?_⟩, fun n w hn => ?_⟩
  · show _ = ite _ _ _
    rw [if_pos rfl]
  · show _ = ite _ _ _
    rw [if_neg (by decide), if_pos rfl]
  · show _ = ite _ _ _
    rw [if_neg (by decide), if_neg (by decide)]
  · show Calls Try.prog 82 #[.int .u64 n, .int .u32 a0] w fun e w' => e = .returned (.int .u32 (if n = 2 then rot 4 1073741824 a0 else if n = 13 then rot 8192 524288 a0 else rot 4194304 1024 a0)) ∧ w' = w
    rcases hn with rfl | rfl | rfl
    · rw [if_pos rfl]; exact rotr_2 w a0
    · rw [if_neg (by decide), if_pos rfl]; exact rotr_13 w a0
    · rw [if_neg (by decide), if_neg (by decide)]; exact rotr_22 w a0
theorem tt2_of (a0 b0 c0 : Int) (RR : Int → Int) (h : rot 4 1073741824 a0 = RR 2 ∧ rot 8192 524288 a0 = RR 13 ∧ rot 4194304 1024 a0 = RR 22) : tt2 a0 b0 c0 = (bits .xor .u32 (bits .xor .u32 (RR 2) (RR 13)) (RR 22) + bits .xor .u32 (bits .xor .u32 (bits .and .u32 a0 b0) (bits .and .u32 a0 c0)) (bits .and .u32 b0 c0)) % 4294967296 := by
  unfold tt2 bs0
  rw [h.1, h.2.1, h.2.2]
theorem below_dn (w : World) (n : Nat) : Below w.heap.size w (w.drewN n) := ⟨rfl, rfl, rfl, Nat.le_refl _, fun _ _ => rfl⟩
theorem Try.inf63 : (Try.prog.info? 63).map (fun i => (i.zero, i.size, i.bytes)) = some (some (.agg (u8s (List.replicate 32 0)).toArray), 32, 32) := by kernel_rfl
structure SHD (w0 w : World) (D : Nat) (v : Value) (Y hs : List Int) (W : Nat) (ws : List Int) : Prop where
  s : SH w0 w D v Y hs
  r : w.rangeAt W 0 (u8s ws)
  t : w.there W 0 32
  l : ws.length = 32
  n : D + 3 ≤ W
  a : v.ownBlock ≠ some W
  z : W < w.heap.size
theorem SHD.set {w0 w : World} {D : Nat} {v : Value} {Y hs : List Int} {W : Nat} {ws : List Int} (h : SHD w0 w D v Y hs W ws) (j : Nat) (x : Int) : SHD w0 (w.setCell ⟨W, j, none⟩ (.int .u8 x)) D v Y hs W (ws.set j x) := by
  have k : Ex (fun k => k = W) w (w.setCell ⟨W, j, none⟩ (.int .u8 x)) := (Ex.refl (fun k => k = W) _).set rfl _
  refine ⟨h.s.ex k h.n h.a, ?_, there_set h.t _ _, by simp [h.l], h.n, h.a, by simpa using h.z⟩
  have := range_set h.r j (.int .u8 x)
  rw [Nat.zero_add] at this
  simpa [u8s, List.map_set] using this
theorem SHD.cell {w0 w : World} {D : Nat} {v : Value} {Y hs : List Int} {W : Nat} {ws : List Int} (h : SHD w0 w D v Y hs W ws) {j : Nat} (hj : j < 32) : w.cell? ⟨W, j, none⟩ = some (.int .u8 (fld ws j)) := by
  have := h.r j (.int .u8 (fld ws j)) (by rw [u8s, List.getElem?_map, fld, List.getElem?_eq_getElem (by rw [h.l]; exact hj)]; rfl)
  rwa [Nat.zero_add] at this
theorem SHD.fz {w0 w : World} {D : Nat} {v : Value} {Y hs : List Int} {W : Nat} {ws : List Int} (h : SHD w0 w D v Y hs W ws) {j : Nat} (hj : j < 32) : w.frozen? ⟨W, j, none⟩ = false := by
  have := (h.t j hj).2
  rwa [Nat.zero_add] at this
theorem len8 {l : List Int} (h : l.length = 8) : ∃ a b c d e f g k, l = [a, b, c, d, e, f, g, k] := by
  match l, h with
  | [a, b, c, d, e, f, g, k], _ => exact ⟨a, b, c, d, e, f, g, k, rfl⟩
theorem rdK_succ (ws l : List Int) (t : Nat) : rdK ws l (t + 1) = rd1 ws t (rdK ws l t) := rfl
attribute [-simp] Try.isAgg153 Try.sizeOf153 Try.typeInfo153 Try.isAgg63 Try.sizeOf63 Try.typeInfo63
set_option linter.unusedSimpArgs false in
set_option maxRecDepth 100000 in
set_option maxHeartbeats 8000000 in
theorem sum_any (w : World) (v : Value) (X : List Int) (h : BB w 0 v X) (hX : X.length = 2560) :
    Calls Try.prog 58 #[v] w fun e w' => e = .returned (.agg (u8s (shaP X)).toArray) ∧ Below w.heap.size w w' := by
  obtain ⟨F, hF⟩ : ∃ F, u8s (shaP X) = F := ⟨_, rfl⟩
  have HFl : Hid (F.length = 32) := by rw [← hF]; simp [Hid, u8s, shaP, dgK_len]
  have HF1 : Hid (∀ u ∈ F, u.oneCell' = true) := by rw [← hF]; exact u8s_one _
  rw [hF]
  have HOUT := hide hF
  clear hF
  obtain ⟨a, c, rfl⟩ := own_form h
  have HBB := hide h
  have HX := hide hX
  clear h hX
  go_enter Try.func58, Try.ntmps58
  go_upto_region 1 with fail
  obtain ⟨i3, hi3, hz3, hy3, _⟩ := info_parts Try.inf153
  obtain ⟨i4, hi4, hz4, hy4, _⟩ := info_parts Try.inf154
  obtain ⟨D, hD⟩ : ∃ D, w.heap.size = D := ⟨_, rfl⟩
  have HD := hide hD
  have HT : Hid ((w.alloc (.cells #[.int .u8 0, .int .u8 0, .int .u8 0, .int .u8 0, .int .u8 0, .int .u8 0, .int .u8 0, .int .u8 0, .int .u8 0, .int .u8 0, .int .u8 0, .int .u8 0, .int .u8 0, .int .u8 0, .int .u8 0, .int .u8 0, .int .u8 0, .int .u8 0, .int .u8 0, .int .u8 0, .int .u8 0, .int .u8 0, .int .u8 0, .int .u8 0, .int .u8 0, .int .u8 0, .int .u8 0, .int .u8 0, .int .u8 0, .int .u8 0, .int .u8 0, .int .u8 0] 63)).there D 0 32) := by rw [← hD]; exact newTz w _ 63
  have HBE := hide (be1 w (.cells #[.int .u8 0, .int .u8 0, .int .u8 0, .int .u8 0, .int .u8 0, .int .u8 0, .int .u8 0, .int .u8 0, .int .u8 0, .int .u8 0, .int .u8 0, .int .u8 0, .int .u8 0, .int .u8 0, .int .u8 0, .int .u8 0, .int .u8 0, .int .u8 0, .int .u8 0, .int .u8 0, .int .u8 0, .int .u8 0, .int .u8 0, .int .u8 0, .int .u8 0, .int .u8 0, .int .u8 0, .int .u8 0, .int .u8 0, .int .u8 0, .int .u8 0, .int .u8 0] 63))
  have HS : Hid ((w.alloc (.cells #[.int .u8 0, .int .u8 0, .int .u8 0, .int .u8 0, .int .u8 0, .int .u8 0, .int .u8 0, .int .u8 0, .int .u8 0, .int .u8 0, .int .u8 0, .int .u8 0, .int .u8 0, .int .u8 0, .int .u8 0, .int .u8 0, .int .u8 0, .int .u8 0, .int .u8 0, .int .u8 0, .int .u8 0, .int .u8 0, .int .u8 0, .int .u8 0, .int .u8 0, .int .u8 0, .int .u8 0, .int .u8 0, .int .u8 0, .int .u8 0, .int .u8 0, .int .u8 0] 63)).heap.size = D + 1) := by show _ = _; rw [← hD]; simp
  rw [hD]
  generalize w.alloc (.cells #[.int .u8 0, .int .u8 0, .int .u8 0, .int .u8 0, .int .u8 0, .int .u8 0, .int .u8 0, .int .u8 0, .int .u8 0, .int .u8 0, .int .u8 0, .int .u8 0, .int .u8 0, .int .u8 0, .int .u8 0, .int .u8 0, .int .u8 0, .int .u8 0, .int .u8 0, .int .u8 0, .int .u8 0, .int .u8 0, .int .u8 0, .int .u8 0, .int .u8 0, .int .u8 0, .int .u8 0, .int .u8 0, .int .u8 0, .int .u8 0, .int .u8 0, .int .u8 0] 63) = w1 at *
  clear hD
  refine wp_region_lit ?_
  refine wpL_build rfl 153 _ rfl (u32s ktab).toArray (by exact built_k) ?_
  refine wpL_alloc rfl 153 rfl i3 hi3 _ hz3 ?_
  rw [show (Value.agg (u32s (List.replicate 64 0)).toArray).cells = (u32s (List.replicate 64 0)).toArray from rfl]
  obtain ⟨g1, g2, g3, g4⟩ := new_lit w1 (u32s (List.replicate 64 0)).toArray 153 (u32s ktab) (by simp [u32s, ktab])
  have hth := newTz w1 (u32s (List.replicate 64 0)).toArray 153
  refine wpList_store_mid rfl 153 (.tmp 3) (.tmp 26) rfl w1.heap.size 0 (u32s ktab).toArray rfl rfl (by simpa [u32s, ktab] using hth) (by simpa [u32s, ktab] using Try.sz153) (all_oneCell_toArray (u32s_one _)) ?_
  rw [show (u32s ktab).toArray.toList = u32s ktab by simp]
  rw [HS.out] at g1 g2 g4 ⊢
  have HT2 : Hid (((w1.alloc (.cells (u32s (List.replicate 64 0)).toArray 153)).setCells (D + 1) 0 (u32s ktab)).there D 0 32) := there_below HT.out (by have := HS.out; omega) (by have := g3; rw [HS.out] at this ⊢; exact this)
  have HBE2 := hide (lec HBE.out (show Below w1.heap.size w1 ((w1.alloc (.cells (u32s (List.replicate 64 0)).toArray 153)).setCells (D + 1) 0 (u32s ktab)) by have := g3; rw [HS.out] at this ⊢; exact this))
  have HK := hide g1
  have HS2 := hide g4
  clear hth g1 g2 g3 g4 HT HBE
  generalize (w1.alloc (.cells (u32s (List.replicate 64 0)).toArray 153)).setCells (D + 1) 0 (u32s ktab) = w2 at *
  go_upto_region 2 with fail
  refine wp_region_lit ?_
  refine wpL_build rfl 154 _ rfl (u32s hini).toArray (by exact built_h) ?_
  refine wpL_alloc rfl 154 rfl i4 hi4 _ hz4 ?_
  rw [show (Value.agg (u32s (List.replicate 8 0)).toArray).cells = (u32s (List.replicate 8 0)).toArray from rfl]
  obtain ⟨g1, g2, g3, g4⟩ := new_lit w2 (u32s (List.replicate 8 0)).toArray 154 (u32s hini) (by simp [u32s, hini])
  have hth := newTz w2 (u32s (List.replicate 8 0)).toArray 154
  refine wpList_store_mid rfl 154 (.tmp 4) (.tmp 27) rfl w2.heap.size 0 (u32s hini).toArray rfl rfl (by simpa [u32s, hini] using hth) (by simpa [u32s, hini] using Try.sz154) (all_oneCell_toArray (u32s_one _)) ?_
  rw [show (u32s hini).toArray.toList = u32s hini by simp]
  rw [HS2.out] at g1 g2 g4 ⊢
  rw [show D + 1 + 1 = D + 2 from rfl] at g1 g2 g4 ⊢
  have g5 : Below w2.heap.size w2 ((w2.alloc (.cells (u32s (List.replicate 8 0)).toArray 154)).setCells (D + 2) 0 (u32s hini)) := by have := g3; rw [HS2.out] at this ⊢; exact this
  have HSH : Hid (w.heap.size = D ∧ Below w.heap.size w ((w2.alloc (.cells (u32s (List.replicate 8 0)).toArray 154)).setCells (D + 2) 0 (u32s hini)) ∧ ((w2.alloc (.cells (u32s (List.replicate 8 0)).toArray 154)).setCells (D + 2) 0 (u32s hini)).there D 0 32 ∧ ((w2.alloc (.cells (u32s (List.replicate 8 0)).toArray 154)).setCells (D + 2) 0 (u32s hini)).rangeAt (D + 1) 0 (u32s ktab) ∧ ((w2.alloc (.cells (u32s (List.replicate 8 0)).toArray 154)).setCells (D + 2) 0 (u32s hini)).rangeAt (D + 2) 0 (u32s hini) ∧ ((w2.alloc (.cells (u32s (List.replicate 8 0)).toArray 154)).setCells (D + 2) 0 (u32s hini)).there (D + 2) 0 8 ∧ ((w2.alloc (.cells (u32s (List.replicate 8 0)).toArray 154)).setCells (D + 2) 0 (u32s hini)).heap.size = D + 3) :=
    ⟨HD.out, lec HBE2.out g5, there_below HT2.out (by have := HS2.out; omega) g5, range_below HK.out (by have := HS2.out; omega) g5, g1, by simpa [u32s, hini] using g2, g4⟩
  clear hth g1 g2 g3 g4 g5 HT2 HBE2 HK HS2 HS
  generalize (w2.alloc (.cells (u32s (List.replicate 8 0)).toArray 154)).setCells (D + 2) 0 (u32s hini) = w3 at *
  go_upto_region 3 with fail
  go_wp2_with fail
  refine (pad_any w3 (.slice a X.length c) X (HBB.out.below HSH.out.2.1) HX.out).mono ?_
  rintro e w4 ⟨v4, rfl, hnb⟩
  obtain ⟨a4, c4, e4⟩ := own_form hnb.bb
  subst e4
  obtain ⟨Y, hY⟩ : ∃ Y, padP X = Y := ⟨_, rfl⟩
  rw [hY] at hnb ⊢
  have HY := hide hY
  have HYl : Hid (Y.length = 2624) := by show Y.length = _; rw [← hY]; simp [padP, putP, putN_len, HX.out]
  have HS : Hid (SH w w4 D (.slice a4 Y.length c4) Y hini) := by
    obtain ⟨q1, q2, q3, q4, q5, q6, q7⟩ := HSH.out
    have k := hnb.be
    exact ⟨lec q2 k, q1.symm, there_below q3 (by omega) k, range_below q4 (by omega) k, range_below q5 (by omega) k, there_below q6 (by omega) k, by rw [← q7]; exact hnb.bb, rfl, by have := k.size; omega⟩
  clear hnb hY HSH HD
  obtain ⟨g4, e4⟩ : ∃ g, a4 = some ⟨g, 0, none⟩ := by
    obtain ⟨g, cc, e⟩ := own_some HS.out.bb (by rw [HYl.out]; omega)
    injection e with e _ _
    exact ⟨g, e⟩
  subst e4
  have hYl : (Y.length : Int) = 2624 := by have := HYl.out; omega
  go_upto_block 0 with fail
  go_cut [6] (fun _ wx => SH w wx D (.slice (some ⟨g4, 0, none⟩) Y.length c4) Y (hsK Y 41))
  case first =>
    go_wp2
    refine wp_loop_mix [none, none, none, none, none, none, some 6, some 7, some 8, some 9, some 10, some 11, some 12, some 13, some 14, some 15, some 16, some 17, some 18, some 19, some 20, some 21, some 22, some 23, none, none, none, none, none, none, some 30, some 31, some 32, some 33, some 34, some 35, some 36, some 37, some 38, some 39, some 40, some 41, some 42, some 43, some 44, some 45, some 46, some 47, some 48, some 49, some 50, some 51, some 52, some 53, some 54, some 55, some 56, some 57, some 58, some 59, some 60, some 61, some 62, some 63, some 64, some 65, some 66, some 67, some 68, some 69, some 70, some 71, some 72, some 73, some 74, some 75, some 76, some 77, some 78, some 79, some 80, some 81, some 82, some 83, some 84, some 85, some 86, some 87, some 88, some 89, some 90, some 91, some 92, some 93, some 94, some 95, some 96, some 97, some 98, some 99, some 100, some 101, some 102, some 103, some 104, some 105, some 106, some 107, some 108, some 109, some 110, some 111, some 112, some 113, some 114, some 115, some 116, some 117, some 118, some 119, some 120, some 121, some 122, some 123, some 124, some 125, some 126, some 127, some 128, some 129, some 130, some 131, some 132, some 133, some 134, some 135, some 136, some 137, some 138, some 139, some 140, some 141, some 142, some 143, some 144, some 145, some 146, some 147, some 148, some 149, some 150, some 151, some 152, some 153, some 154, some 155, some 156, some 157, some 158, some 159, some 160, some 161, some 162, some 163, some 164, some 165, some 166, some 167, some 168, some 169, some 170, some 171, some 172, some 173, some 174, some 175, some 176, some 177, some 178, some 179, some 180, some 181, some 182, some 183, some 184, some 185, some 186, some 187, some 188, some 189, some 190, some 191, some 192, some 193, some 194, some 195, some 196, some 197, some 198, some 199, some 200, some 201, some 202, some 203, some 204, some 205, some 206, some 207, some 208, some 209, some 210, some 211, some 212, some 213, some 214, some 215, some 216, some 217, some 218, some 219, some 220, some 221, some 222, some 223, some 224, some 225, some 226, some 227, some 228, some 229, some 230, some 231, some 232, some 233, some 234, some 235, some 236, some 237, some 238, some 239, some 240, some 241, none, none, none, none, none, none, none, none, none, none, none, none, none, none, none, none, none, none, none, none, none, none, none, none, none, none, none, none, none, none, none, none, none, none, none, none, none, none, none] (by kernel_rfl) (fun us wy => (fun s6 wr => ∃ k : Nat, k ≤ 41 ∧ s6 = .int .i64 k ∧ SH w wr D (.slice (some ⟨g4, 0, none⟩) Y.length c4) Y (hsK Y k)) (us 6) wy) (fun us wy => (fun s6 _ => 41 - (intOf s6).toNat) (us 6) wy) ?atStart ?round
    case atStart => (dsimp only [getL]; exact ⟨0, Nat.zero_le _, rfl, HS.out⟩)
    case round =>
      intro us wr hrel J1 hJ1
      dsimp only at hrel hJ1
      dsimp only [mixF]
      generalize us 6 = s6 at hrel hJ1 ⊢
      have HJ1 := hide hJ1
      clear hJ1
      clear HS
      obtain ⟨k, hk, rfl, hsh⟩ := hrel
      have HS := hide hsh
      clear hsh
      by_cases hlt : k < 41
      · have d1 : decide ((k : Int) < 41) = true := by simp; omega
        go_upto_region 7 with fail
        refine wp_region_lit ?_
        refine wpL_alloc rfl 153 rfl i3 hi3 _ hz3 ?_
        rw [show (Value.agg (u32s (List.replicate 64 0)).toArray).cells = (u32s (List.replicate 64 0)).toArray from rfl]
        have HSW : Hid (SHW w (wr.alloc (.cells (u32s (List.replicate 64 0)).toArray 153)) D (.slice (some ⟨g4, 0, none⟩) Y.length c4) Y (hsK Y k) wr.heap.size (List.replicate 64 0)) := by
          refine ⟨HS.out.below (be1 wr _), newR wr _ 153, by simpa [u32s] using newTz wr (u32s (List.replicate 64 0)).toArray 153, by simp, HS.out.sz, fun e => ?_, by simp⟩
          have := (HS.out.bb.lt _ e).2
          omega
        obtain ⟨W, hW⟩ : ∃ W, wr.heap.size = W := ⟨_, rfl⟩
        rw [hW] at HSW ⊢
        clear hW
        generalize wr.alloc (.cells (u32s (List.replicate 64 0)).toArray 153) = w5 at *
        go_upto_block 2 with fail
        go_cut [8] (fun _ wx => SHW w wx D (.slice (some ⟨g4, 0, none⟩) Y.length c4) Y (hsK Y k) W (w1K Y k 16))
        case first =>
          go_wp2
          refine wp_loop_mix [none, none, none, none, none, none, none, none, some 8, some 9, none, none, none, none, none, none, none, none, none, none, none, none, none, none, none, none, none, none, none, none, none, none, none, none, none, none, none, some 37, some 38, some 39, some 40, some 41, some 42, some 43, some 44, some 45, some 46, some 47, some 48, some 49, some 50, some 51, some 52, some 53, some 54, some 55, some 56, some 57, some 58, some 59, some 60, some 61, some 62, some 63, some 64, some 65, some 66, some 67, some 68, some 69, some 70, some 71, some 72, some 73, some 74, some 75, some 76, none, none, none, none, none, none, none, none, none, none, none, none, none, none, none, none, none, none, none, none, none, none, none, none, none, none, none, none, none, none, none, none, none, none, none, none, none, none, none, none, none, none, none, none, none, none, none, none, none, none, none, none, none, none, none, none, none, none, none, none, none, none, none, none, none, none, none, none, none, none, none, none, none, none, none, none, none, none, none, none, none, none, none, none, none, none, none, none, none, none, none, none, none, none, none, none, none, none, none, none, none, none, none, none, none, none, none, none, none, none, none, none, none, none, none, none, none, none, none, none, none, none, none, none, none, none, none, none, none, none, none, none, none, none, none, none, none, none, none, none, none, none, none, none, none, none, none, none, none, none, none, none, none, none, none, none, none, none, none, none, none, none, none, none, none, none, none, none, none, none, none, none, none, none, none, none, none, none, none, none, none, none, none, none, none, none, none, none, none, none, none, none, none, none, none, none, none, none, none, none, none, none, none, none] (by kernel_rfl) (fun us wy => (fun s8 wr => ∃ t : Nat, t ≤ 16 ∧ s8 = .int .i64 t ∧ SHW w wr D (.slice (some ⟨g4, 0, none⟩) Y.length c4) Y (hsK Y k) W (w1K Y k t)) (us 8) wy) (fun us wy => (fun s8 _ => 16 - (intOf s8).toNat) (us 8) wy) ?atStart ?round
          case atStart => (dsimp only [getL]; exact ⟨0, Nat.zero_le _, rfl, HSW.out⟩)
          case round =>
            intro us wr hrel J2 hJ2
            dsimp only at hrel hJ2
            dsimp only [mixF]
            generalize us 8 = s8 at hrel hJ2 ⊢
            have HJ2 := hide hJ2
            clear hJ2
            clear HSW
            obtain ⟨t, ht, rfl, hsw⟩ := hrel
            have HSW := hide hsw
            clear hsw
            by_cases htl : t < 16
            · have d2 : decide ((t : Int) < 16) = true := by simp; omega
              have q0 : IntKind.i64.wrap (64 * (k : Int)) = ((64 * k : Nat) : Int) := by rw [IntKind.wrap_i64]; omega
              have q1 : IntKind.i64.wrap (4 * (t : Int)) = ((4 * t : Nat) : Int) := by rw [IntKind.wrap_i64]; omega
              have q2 : IntKind.i64.wrap (((64 * k : Nat) : Int) + ((4 * t : Nat) : Int)) = ((64 * k + 4 * t : Nat) : Int) := by rw [IntKind.wrap_i64]; omega
              go_upto_region 12 with fail
              obtain ⟨N0, hN0⟩ : ∃ N0 : Nat, 64 * k + 4 * t = N0 := ⟨_, rfl⟩
              have hN : (64 * (k : Int) + 4 * (t : Int)) = (N0 : Int) := by omega
              have hNb : N0 + 3 < 2624 := by omega
              have hnb : (N0 : Int) + 3 < 2624 := by omega
              rw [hN]
              have HN0 := hide hN0
              clear q0 q1 q2 hN hN0
              obtain ⟨y0, hy0⟩ : ∃ y, fld Y N0 = y := ⟨_, rfl⟩
              obtain ⟨y1, hy1⟩ : ∃ y, fld Y (N0 + 1) = y := ⟨_, rfl⟩
              obtain ⟨y2, hy2⟩ : ∃ y, fld Y (N0 + 2) = y := ⟨_, rfl⟩
              obtain ⟨y3, hy3⟩ : ∃ y, fld Y (N0 + 3) = y := ⟨_, rfl⟩
              have c0 : wr.cell? ⟨g4, N0, none⟩ = some (.int .u8 y0) := by rw [← hy0]; exact HSW.out.s.byte (by rw [HYl.out]; omega)
              have c1 : wr.cell? ⟨g4, N0 + 1, none⟩ = some (.int .u8 y1) := by rw [← hy1]; exact HSW.out.s.byte (by rw [HYl.out]; omega)
              have c2 : wr.cell? ⟨g4, N0 + 2, none⟩ = some (.int .u8 y2) := by rw [← hy2]; exact HSW.out.s.byte (by rw [HYl.out]; omega)
              have c3 : wr.cell? ⟨g4, N0 + 3, none⟩ = some (.int .u8 y3) := by rw [← hy3]; exact HSW.out.s.byte (by rw [HYl.out]; omega)
              have HYY : Hid (fld Y N0 = y0 ∧ fld Y (N0 + 1) = y1 ∧ fld Y (N0 + 2) = y2 ∧ fld Y (N0 + 3) = y3) := ⟨hy0, hy1, hy2, hy3⟩
              clear hy0 hy1 hy2 hy3
              have cw := HSW.out.cell (j := t) (by omega)
              have fw := HSW.out.fz (j := t) (by omega)
              have w0 : IntKind.i64.wrap ((N0 : Int) + 1) = (N0 : Int) + 1 := by rw [IntKind.wrap_i64]; omega
              have w1 : IntKind.i64.wrap ((N0 : Int) + 2) = (N0 : Int) + 2 := by rw [IntKind.wrap_i64]; omega
              have w2 : IntKind.i64.wrap ((N0 : Int) + 3) = (N0 : Int) + 3 := by rw [IntKind.wrap_i64]; omega
              have t1 : ((N0 : Int) + 1).toNat = N0 + 1 := by omega
              have t2 : ((N0 : Int) + 2).toNat = N0 + 2 := by omega
              have t3 : ((N0 : Int) + 3).toNat = N0 + 3 := by omega
              have b0 : (N0 : Int) < 2624 := by omega
              have b1 : (N0 : Int) + 1 < 2624 := by omega
              have b2 : (N0 : Int) + 2 < 2624 := by omega
              have ti : (t : Int) < 64 := by omega
              go_region
              have HX1 : Hid (w1K Y k (t + 1) = (w1K Y k t).set t (bits .or .u32 (bits .or .u32 (bits .or .u32 (y0 % 4294967296 * 16777216 % 4294967296) (y1 % 4294967296 * 65536 % 4294967296)) (y2 % 4294967296 * 256 % 4294967296)) (y3 % 4294967296))) := by
                show _ = _
                rw [w1K, itr, wd, HN0.out, HYY.out.1, HYY.out.2.1, HYY.out.2.2.1, HYY.out.2.2.2]
                rfl
              generalize (bits .or .u32 (bits .or .u32 (bits .or .u32 (y0 % 4294967296 * 16777216 % 4294967296) (y1 % 4294967296 * 65536 % 4294967296)) (y2 % 4294967296 * 256 % 4294967296)) (y3 % 4294967296)) = nv at *
              have HSW2 := hide ((HSW.out.set t nv).below ((Below.refl _ _).drew))
              generalize (wr.setCell ⟨W, t, none⟩ (.int .u32 nv)).drew = wz at *
              rw [← HX1.out] at HSW2
              clear c0 c1 c2 c3 cw fw HSW b0 b1 b2 t1 t2 t3 w0 w1 w2 hnb hNb ti
              go_wp2
              first | refine HJ2.out _ _ ?rel (by kernel_rfl) rfl ?measure | refine HJ1.out _ _ ?rel (by kernel_rfl) rfl ?measure
              case rel => (try dsimp only [rdA, getL]); (exact ⟨t + 1, by omega, by go_num, HSW2.out⟩)
              case measure => (try dsimp only [rdA, getL]); (simp [intOf]; omega)
            · obtain rfl : t = 16 := by omega
              go_wp2
              go_meet
              exact HSW.out
        replace HSW := hide hcut
        clear hcut
        obtain ⟨w6, hw6⟩ : ∃ W', W' = wc := ⟨_, rfl⟩
        subst hw6
        go_upto_block 4 with fail
        go_cut [10] (fun _ wx => SHW w wx D (.slice (some ⟨g4, 0, none⟩) Y.length c4) Y (hsK Y k) W (w2K Y k 48))
        case first =>
          --LOOP3
          go_wp2
          refine wp_loop_mix [none, none, none, none, none, none, none, none, none, none, some 10, some 11, some 12, none, none, none, none, none, none, none, none, none, none, none, none, none, none, none, none, none, none, none, none, none, none, none, none, none, none, none, none, none, none, none, none, none, none, none, none, none, none, none, none, none, none, none, none, none, none, none, none, none, none, none, none, none, none, none, none, none, none, none, none, none, none, none, none, some 77, some 78, some 79, some 80, some 81, some 82, some 83, some 84, some 85, some 86, some 87, some 88, some 89, some 90, some 91, some 92, some 93, some 94, some 95, some 96, some 97, some 98, some 99, some 100, some 101, some 102, some 103, some 104, some 105, some 106, some 107, some 108, some 109, some 110, some 111, some 112, some 113, some 114, some 115, some 116, some 117, some 118, some 119, some 120, some 121, some 122, some 123, some 124, some 125, some 126, some 127, some 128, some 129, none, none, none, none, none, none, none, none, none, none, none, none, none, none, none, none, none, none, none, none, none, none, none, none, none, none, none, none, none, none, none, none, none, none, none, none, none, none, none, none, none, none, none, none, none, none, none, none, none, none, none, none, none, none, none, none, none, none, none, none, none, none, none, none, none, none, none, none, none, none, none, none, none, none, none, none, none, none, none, none, none, none, none, none, none, none, none, none, none, none, none, none, none, none, none, none, none, none, none, none, none, none, none, none, none, none, none, none, none, none, none, none, none, none, none, none, none, none, none, none, none, none, none, none, none, none, none, none, none, none, none, none, none, none, none, none, none, none, none, none, none, none, none, none, none, none, none, none, none, none, none] (by kernel_rfl) (fun us wy => (fun s10 wr => ∃ t j : Nat, t = 16 + j ∧ j ≤ 48 ∧ s10 = .int .i64 t ∧ SHW w wr D (.slice (some ⟨g4, 0, none⟩) Y.length c4) Y (hsK Y k) W (w2K Y k j)) (us 10) wy) (fun us wy => (fun s10 _ => 64 - (intOf s10).toNat) (us 10) wy) ?atStart ?round
          case atStart => (dsimp only [getL]; exact ⟨16, 0, rfl, Nat.zero_le _, rfl, HSW.out⟩)
          case round =>
            intro us wr hrel J3 hJ3
            dsimp only at hrel hJ3
            dsimp only [mixF]
            generalize us 10 = s10 at hrel hJ3 ⊢
            have HJ3 := hide hJ3
            clear hJ3
            clear HSW
            obtain ⟨t, j, htj, hj, rfl, hsw⟩ := hrel
            have HTJ := hide htj
            have HSW := hide hsw
            have ht16 : 16 ≤ t := by omega
            have ht64 : t ≤ 64 := by omega
            clear hsw htj
            by_cases htl : t < 64
            · have d2 : decide ((t : Int) < 64) = true := by simp; omega
              obtain ⟨ws, hws⟩ : ∃ ws, w2K Y k j = ws := ⟨_, rfl⟩
              have HWS := hide hws
              rw [hws] at HSW
              obtain ⟨m2, h2⟩ : ∃ m : Nat, (t : Int) - 2 = m := ⟨t - 2, by omega⟩
              obtain ⟨m7, h7⟩ : ∃ m : Nat, (t : Int) - 7 = m := ⟨t - 7, by omega⟩
              obtain ⟨m15, h15⟩ : ∃ m : Nat, (t : Int) - 15 = m := ⟨t - 15, by omega⟩
              obtain ⟨m16, h16⟩ : ∃ m : Nat, (t : Int) - 16 = m := ⟨t - 16, by omega⟩
              have HMM : Hid (m2 = t - 2 ∧ m7 = t - 7 ∧ m15 = t - 15 ∧ m16 = t - 16) := ⟨by omega, by omega, by omega, by omega⟩
              have l2 : (m2 : Int) < 64 := by omega
              have l7 : (m7 : Int) < 64 := by omega
              have l15 : (m15 : Int) < 64 := by omega
              have l16 : (m16 : Int) < 64 := by omega
              have lt : (t : Int) < 64 := by omega
              have q2 : IntKind.i64.wrap ((t : Int) - 2) = m2 := by rw [IntKind.wrap_i64]; omega
              have q7 : IntKind.i64.wrap ((t : Int) - 7) = m7 := by rw [IntKind.wrap_i64]; omega
              have q15 : IntKind.i64.wrap ((t : Int) - 15) = m15 := by rw [IntKind.wrap_i64]; omega
              have q16 : IntKind.i64.wrap ((t : Int) - 16) = m16 := by rw [IntKind.wrap_i64]; omega
              have p2 : IntKind.i64.wrap (m2 : Int) = m2 := by rw [IntKind.wrap_i64]; omega
              have p7 : IntKind.i64.wrap (m7 : Int) = m7 := by rw [IntKind.wrap_i64]; omega
              have p15 : IntKind.i64.wrap (m15 : Int) = m15 := by rw [IntKind.wrap_i64]; omega
              have p16 : IntKind.i64.wrap (m16 : Int) = m16 := by rw [IntKind.wrap_i64]; omega
              have c2 := HSW.out.cell (j := m2) (by omega)
              have c7 := HSW.out.cell (j := m7) (by omega)
              have c15 := HSW.out.cell (j := m15) (by omega)
              have c16 := HSW.out.cell (j := m16) (by omega)
              have ct := HSW.out.cell (j := t) (by omega)
              have ft := HSW.out.fz (j := t) (by omega)
              have HXX : Hid (wx ws t = (sg1 (fld ws m2) + fld ws m7 + sg0 (fld ws m15) + fld ws m16) % 4294967296) := by show _ = _; rw [wx, HMM.out.1, HMM.out.2.1, HMM.out.2.2.1, HMM.out.2.2.2]
              obtain ⟨x2, e2⟩ : ∃ x, fld ws m2 = x := ⟨_, rfl⟩
              obtain ⟨x7, e7⟩ : ∃ x, fld ws m7 = x := ⟨_, rfl⟩
              obtain ⟨x15, e15⟩ : ∃ x, fld ws m15 = x := ⟨_, rfl⟩
              obtain ⟨x16, e16⟩ : ∃ x, fld ws m16 = x := ⟨_, rfl⟩
              obtain ⟨xt, et⟩ : ∃ x, fld ws t = x := ⟨_, rfl⟩
              rw [e2] at c2 HXX
              rw [e7] at c7 HXX
              rw [e15] at c15 HXX
              rw [e16] at c16 HXX
              rw [et] at ct
              clear e2 e7 e15 e16 et hws
              go_upto_region 16 with fail
              refine wp_region_quiet_lit (by kernel_rfl) (by kernel_rfl) ?_
              first | go_big_quiet_skip | (go_big_quiet_want; go_big_quiet_op; go_big_quiet_on)
              first | go_big_quiet_skip | (go_big_quiet_want; go_big_quiet_op; go_big_quiet_on)
              first | go_big_quiet_skip | (go_big_quiet_want; go_big_quiet_op; go_big_quiet_on)
              first | go_big_quiet_skip | (go_big_quiet_want; go_big_quiet_op; go_big_quiet_on)
              go_big_quiet_want
              go_big_quiet_op
              refine ⟨Value.int .u32 (rot 128 33554432 x15), fun nn => (rotr_7 (wr.drewN nn) x15).mono (fun e w2 h => ⟨h.1, nn, h.2⟩), ?_⟩
              go_big_quiet_on
              first | go_big_quiet_skip | (go_big_quiet_want; go_big_quiet_op; go_big_quiet_on)
              first | go_big_quiet_skip | (go_big_quiet_want; go_big_quiet_op; go_big_quiet_on)
              first | go_big_quiet_skip | (go_big_quiet_want; go_big_quiet_op; go_big_quiet_on)
              first | go_big_quiet_skip | (go_big_quiet_want; go_big_quiet_op; go_big_quiet_on)
              go_big_quiet_want
              go_big_quiet_op
              refine ⟨Value.int .u32 (rot 262144 16384 x15), fun nn => (rotr_18 (wr.drewN nn) x15).mono (fun e w2 h => ⟨h.1, nn, h.2⟩), ?_⟩
              go_big_quiet_on
              first | go_big_quiet_skip | (go_big_quiet_want; go_big_quiet_op; go_big_quiet_on)
              first | go_big_quiet_skip | (go_big_quiet_want; go_big_quiet_op; go_big_quiet_on)
              first | go_big_quiet_skip | (go_big_quiet_want; go_big_quiet_op; go_big_quiet_on)
              first | go_big_quiet_skip | (go_big_quiet_want; go_big_quiet_op; go_big_quiet_on)
              first | go_big_quiet_skip | (go_big_quiet_want; go_big_quiet_op; go_big_quiet_on)
              first | go_big_quiet_skip | (go_big_quiet_want; go_big_quiet_op; go_big_quiet_on)
              first | go_big_quiet_skip | (go_big_quiet_want; go_big_quiet_op; go_big_quiet_on)
              first | go_big_quiet_skip | (go_big_quiet_want; go_big_quiet_op; go_big_quiet_on)
              refine wpQuiet_nil ?_
              rintro _ ⟨nq, rfl⟩
              have HSD := hide (HSW.out.below (below_dn wr nq))
              replace c2 : (wr.drewN nq).cell? ⟨W, m2, none⟩ = some (.int .u32 x2) := c2
              replace c7 : (wr.drewN nq).cell? ⟨W, m7, none⟩ = some (.int .u32 x7) := c7
              replace c16 : (wr.drewN nq).cell? ⟨W, m16, none⟩ = some (.int .u32 x16) := c16
              replace ct : (wr.drewN nq).cell? ⟨W, t, none⟩ = some (.int .u32 xt) := ct
              replace ft : (wr.drewN nq).frozen? ⟨W, t, none⟩ = false := ft
              clear c15 HSW
              have e0 : bits .xor .u32 (bits .xor .u32 (rot 128 33554432 x15) (rot 262144 16384 x15)) (x15 / 8) = sg0 x15 := rfl
              simp only [e0]
              obtain ⟨S0, hS0⟩ : ∃ S0, sg0 x15 = S0 := ⟨_, rfl⟩
              simp only [hS0] at HXX ⊢
              clear e0 hS0
              generalize wr.drewN nq = wa at *
              go_upto_region 17 with fail
              refine wp_region_quiet_lit (by kernel_rfl) (by kernel_rfl) ?_
              first | go_big_quiet_skip | (go_big_quiet_want; go_big_quiet_op; go_big_quiet_on)
              first | go_big_quiet_skip | (go_big_quiet_want; go_big_quiet_op; go_big_quiet_on)
              first | go_big_quiet_skip | (go_big_quiet_want; go_big_quiet_op; go_big_quiet_on)
              first | go_big_quiet_skip | (go_big_quiet_want; go_big_quiet_op; go_big_quiet_on)
              go_big_quiet_want
              go_big_quiet_op
              refine ⟨Value.int .u32 (rot 131072 32768 x2), fun nn => (rotr_17 (wa.drewN nn) x2).mono (fun e w2 h => ⟨h.1, nn, h.2⟩), ?_⟩
              go_big_quiet_on
              first | go_big_quiet_skip | (go_big_quiet_want; go_big_quiet_op; go_big_quiet_on)
              first | go_big_quiet_skip | (go_big_quiet_want; go_big_quiet_op; go_big_quiet_on)
              first | go_big_quiet_skip | (go_big_quiet_want; go_big_quiet_op; go_big_quiet_on)
              first | go_big_quiet_skip | (go_big_quiet_want; go_big_quiet_op; go_big_quiet_on)
              go_big_quiet_want
              go_big_quiet_op
              refine ⟨Value.int .u32 (rot 524288 8192 x2), fun nn => (rotr_19 (wa.drewN nn) x2).mono (fun e w2 h => ⟨h.1, nn, h.2⟩), ?_⟩
              go_big_quiet_on
              first | go_big_quiet_skip | (go_big_quiet_want; go_big_quiet_op; go_big_quiet_on)
              first | go_big_quiet_skip | (go_big_quiet_want; go_big_quiet_op; go_big_quiet_on)
              first | go_big_quiet_skip | (go_big_quiet_want; go_big_quiet_op; go_big_quiet_on)
              first | go_big_quiet_skip | (go_big_quiet_want; go_big_quiet_op; go_big_quiet_on)
              first | go_big_quiet_skip | (go_big_quiet_want; go_big_quiet_op; go_big_quiet_on)
              first | go_big_quiet_skip | (go_big_quiet_want; go_big_quiet_op; go_big_quiet_on)
              first | go_big_quiet_skip | (go_big_quiet_want; go_big_quiet_op; go_big_quiet_on)
              first | go_big_quiet_skip | (go_big_quiet_want; go_big_quiet_op; go_big_quiet_on)
              refine wpQuiet_nil ?_
              rintro _ ⟨nq, rfl⟩
              have HSE := hide (HSD.out.below (below_dn wa nq))
              replace c7 : (wa.drewN nq).cell? ⟨W, m7, none⟩ = some (.int .u32 x7) := c7
              replace c16 : (wa.drewN nq).cell? ⟨W, m16, none⟩ = some (.int .u32 x16) := c16
              replace ct : (wa.drewN nq).cell? ⟨W, t, none⟩ = some (.int .u32 xt) := ct
              replace ft : (wa.drewN nq).frozen? ⟨W, t, none⟩ = false := ft
              clear c2 HSD
              have e1 : bits .xor .u32 (bits .xor .u32 (rot 131072 32768 x2) (rot 524288 8192 x2)) (x2 / 1024) = sg1 x2 := rfl
              simp only [e1]
              obtain ⟨S1, hS1⟩ : ∃ S1, sg1 x2 = S1 := ⟨_, rfl⟩
              simp only [hS1] at HXX ⊢
              clear e1 hS1
              generalize wa.drewN nq = wb at *
              go_upto_region 18 with fail
              go_region
              generalize (S1 + x7 + S0 + x16) % 4294967296 = nv at *
              have HSW2 := hide ((HSE.out.set t nv).below ((Below.refl _ _).drew))
              generalize (wb.setCell ⟨W, t, none⟩ (.int .u32 nv)).drew = wz at *
              have HX1 : Hid (w2K Y k (j + 1) = ws.set t nv) := by
                show _ = _
                rw [w2K, itr, ← HTJ.out, ← HXX.out, ← HWS.out]
                rfl
              rw [← HX1.out] at HSW2
              clear c7 c16 ct ft HSE l2 l7 l15 l16 q2 q7 q15 q16 p2 p7 p15 p16 h2 h7 h15 h16
              go_wp2
              first | refine HJ3.out _ _ ?rel (by kernel_rfl) rfl ?measure | refine HJ1.out _ _ ?rel (by kernel_rfl) rfl ?measure
              case rel => (try dsimp only [rdA, getL]); (exact ⟨t + 1, j + 1, by have := HTJ.out; omega, by have := HTJ.out; omega, by go_num, HSW2.out⟩)
              case measure => (try dsimp only [rdA, getL]); (simp [intOf]; omega)
            · obtain rfl : t = 64 := by omega
              have ej : j = 48 := by have := HTJ.out; omega
              subst ej
              go_wp2
              go_meet
              exact HSW.out
        replace HSW := hide hcut
        clear hcut
        obtain ⟨w7, hw7⟩ : ∃ W', W' = wc := ⟨_, rfl⟩
        subst hw7
        obtain ⟨hs, hhs⟩ : ∃ hs, hsK Y k = hs := ⟨_, rfl⟩
        obtain ⟨ws, hws⟩ : ∃ ws, w2K Y k 48 = ws := ⟨_, rfl⟩
        rw [hhs, hws] at HSW
        have HKS : Hid (hsK Y (k + 1) = add8 hs (rdK ws hs 64)) := by show _ = _; rw [hsK, itr, ← hhs, ← hws]; rfl
        clear hhs hws
        obtain ⟨g0, g1, g2, g3, g4', g5, g6, g7, ehs⟩ := len8 HSW.out.s.hl
        subst ehs
        have k0 := HSW.out.s.hr 0 _ rfl
        have k1 := HSW.out.s.hr 1 _ rfl
        have k2 := HSW.out.s.hr 2 _ rfl
        have k3 := HSW.out.s.hr 3 _ rfl
        have k4 := HSW.out.s.hr 4 _ rfl
        have k5 := HSW.out.s.hr 5 _ rfl
        have k6 := HSW.out.s.hr 6 _ rfl
        have k7 := HSW.out.s.hr 7 _ rfl
        simp only [Nat.zero_add] at k0 k1 k2 k3 k4 k5 k6 k7
        go_upto_region 19 with fail
        go_quiet (fail)
        have HSW2 := hide (HSW.out.below (below_dn w7 nq))
        clear k0 k1 k2 k3 k4 k5 k6 k7 HSW
        generalize w7.drewN nq = w8 at *
        have HR0 : Hid (rdK ws [g0, g1, g2, g3, g4', g5, g6, g7] 0 = [g0, g1, g2, g3, g4', g5, g6, g7]) := rfl
        go_upto_block 6 with fail
        go_cut [13, 14, 15, 16, 17, 18, 19, 20] (fun y0 y1 y2 y3 y4 y5 y6 y7 wx => ∃ a b c d e f g h : Int, y0 = .int .u32 a ∧ y1 = .int .u32 b ∧ y2 = .int .u32 c ∧ y3 = .int .u32 d ∧ y4 = .int .u32 e ∧ y5 = .int .u32 f ∧ y6 = .int .u32 g ∧ y7 = .int .u32 h ∧ Hid (rdK ws [g0, g1, g2, g3, g4', g5, g6, g7] 64 = [a, b, c, d, e, f, g, h]) ∧ SHW w wx D (.slice (some ⟨g4, 0, none⟩) Y.length c4) Y [g0, g1, g2, g3, g4', g5, g6, g7] W ws)
        case first =>
          go_wp2
          refine wp_loop_mix [none, none, none, none, none, none, none, none, none, none, none, none, none, some 13, some 14, some 15, some 16, some 17, some 18, some 19, some 20, some 21, some 22, some 23, none, none, none, none, none, none, none, none, none, none, none, none, none, none, none, none, none, none, none, none, none, none, none, none, none, none, none, none, none, none, none, none, none, none, none, none, none, none, none, none, none, none, none, none, none, none, none, none, none, none, none, none, none, none, none, none, none, none, none, none, none, none, none, none, none, none, none, none, none, none, none, none, none, none, none, none, none, none, none, none, none, none, none, none, none, none, none, none, none, none, none, none, none, none, none, none, none, none, none, none, none, none, none, none, none, none, none, none, none, none, none, none, none, none, none, none, none, none, none, none, none, none, some 146, some 147, some 148, some 149, some 150, some 151, some 152, some 153, some 154, some 155, some 156, some 157, some 158, some 159, some 160, some 161, some 162, some 163, some 164, some 165, some 166, some 167, some 168, some 169, some 170, some 171, some 172, some 173, some 174, some 175, some 176, some 177, some 178, some 179, some 180, some 181, some 182, some 183, some 184, some 185, some 186, some 187, some 188, some 189, some 190, some 191, some 192, some 193, some 194, some 195, some 196, some 197, some 198, some 199, some 200, some 201, some 202, some 203, some 204, some 205, some 206, some 207, some 208, none, none, none, none, none, none, none, none, none, none, none, none, none, none, none, none, none, none, none, none, none, none, none, none, none, none, none, none, none, none, none, none, none, none, none, none, none, none, none, none, none, none, none, none, none, none, none, none, none, none, none, none, none, none, none, none, none, none, none, none, none, none, none, none, none, none, none, none, none, none, none, none] (by kernel_rfl) (fun us wy => (fun y0 y1 y2 y3 y4 y5 y6 y7 y8 wr => ∃ (t : Nat) (a b c d e f g h : Int), t ≤ 64 ∧ y8 = .int .i64 t ∧ y0 = .int .u32 a ∧ y1 = .int .u32 b ∧ y2 = .int .u32 c ∧ y3 = .int .u32 d ∧ y4 = .int .u32 e ∧ y5 = .int .u32 f ∧ y6 = .int .u32 g ∧ y7 = .int .u32 h ∧ Hid (rdK ws [g0, g1, g2, g3, g4', g5, g6, g7] t = [a, b, c, d, e, f, g, h]) ∧ SHW w wr D (.slice (some ⟨g4, 0, none⟩) Y.length c4) Y [g0, g1, g2, g3, g4', g5, g6, g7] W ws) (us 13) (us 14) (us 15) (us 16) (us 17) (us 18) (us 19) (us 20) (us 21) wy) (fun us wy => (fun _ _ _ _ _ _ _ _ y8 _ => 64 - (intOf y8).toNat) (us 13) (us 14) (us 15) (us 16) (us 17) (us 18) (us 19) (us 20) (us 21) wy) ?atStart ?round
          case atStart => (dsimp only [getL]; exact ⟨0, g0, g1, g2, g3, g4', g5, g6, g7, Nat.zero_le _, rfl, rfl, rfl, rfl, rfl, rfl, rfl, rfl, rfl, HR0, HSW2.out⟩)
          case round =>
            intro us wr hrel J4 hJ4
            dsimp only at hrel hJ4
            dsimp only [mixF]
            generalize us 13 = y0 at hrel hJ4 ⊢
            generalize us 14 = y1 at hrel hJ4 ⊢
            generalize us 15 = y2 at hrel hJ4 ⊢
            generalize us 16 = y3 at hrel hJ4 ⊢
            generalize us 17 = y4 at hrel hJ4 ⊢
            generalize us 18 = y5 at hrel hJ4 ⊢
            generalize us 19 = y6 at hrel hJ4 ⊢
            generalize us 20 = y7 at hrel hJ4 ⊢
            generalize us 21 = y8 at hrel hJ4 ⊢
            have HJ4 := hide hJ4
            clear hJ4
            clear HSW2 HR0
            obtain ⟨t, a0, b0, c0, d0, e0, f0, q0, h0, ht, rfl, rfl, rfl, rfl, rfl, rfl, rfl, rfl, rfl, HRD, hsw⟩ := hrel
            have HSW := hide hsw
            clear hsw
            by_cases htl : t < 64
            · have d2 : decide ((t : Int) < 64) = true := by simp; omega
              have ti : (t : Int) < 64 := by omega
              have HR1 : Hid (rdK ws [g0, g1, g2, g3, g4', g5, g6, g7] (t + 1) = rd1 ws t [a0, b0, c0, d0, e0, f0, q0, h0]) := by
                show _ = _
                rw [rdK_succ, HRD.out]
              obtain ⟨R0, hR0⟩ : ∃ R0, rdK ws [g0, g1, g2, g3, g4', g5, g6, g7] (t + 1) = R0 := ⟨_, rfl⟩
              rw [hR0] at HR1
              have HR2 := hide hR0
              clear hR0 HRD
              have cw := HSW.out.cell (j := t) (by omega)
              have ck := HSW.out.s.kt t _ (u32_fld (by show t < 64; omega))
              rw [Nat.zero_add] at ck
              obtain ⟨T1, hT1⟩ : ∃ T1, tt1 ws t e0 f0 q0 h0 = T1 := ⟨_, rfl⟩
              obtain ⟨xk, hxk⟩ : ∃ x, fld ktab t = x := ⟨_, rfl⟩
              obtain ⟨xw, hxw⟩ : ∃ x, fld ws t = x := ⟨_, rfl⟩
              have HT1 : Hid (((h0 + bs1 e0 + bits .xor .u32 (bits .and .u32 e0 f0) (bits .and .u32 (bits .xor .u32 (if IntKind.u32.signed = true then -1 else IntKind.u32.max) e0) q0) + xk) % 4294967296 + xw) % 4294967296 = T1) := by
                rw [← hT1, ← hxk, ← hxw]; rfl
              rw [hxk] at ck
              rw [hxw] at cw
              have HR3 : Hid (R0 = [(T1 + tt2 a0 b0 c0) % 4294967296, a0, b0, c0, (d0 + T1) % 4294967296, e0, f0, q0]) := by
                show R0 = _
                rw [HR1.out, rd1, hT1]
              clear HR1 hT1 hxk hxw
              go_upto_region 23 with fail
              refine wp_region_quiet_lit (by kernel_rfl) (by kernel_rfl) ?_
              first | go_big_quiet_skip | (go_big_quiet_want; go_big_quiet_op; go_big_quiet_on)
              first | go_big_quiet_skip | (go_big_quiet_want; go_big_quiet_op; go_big_quiet_on)
              go_big_quiet_want
              go_big_quiet_op
              refine ⟨Value.int .u32 (rot 64 67108864 e0), fun nn => (rotr_6 (wr.drewN nn) e0).mono (fun e w2 h => ⟨h.1, nn, h.2⟩), ?_⟩
              go_big_quiet_on
              first | go_big_quiet_skip | (go_big_quiet_want; go_big_quiet_op; go_big_quiet_on)
              go_big_quiet_want
              go_big_quiet_op
              refine ⟨Value.int .u32 (rot 2048 2097152 e0), fun nn => (rotr_11 (wr.drewN nn) e0).mono (fun e w2 h => ⟨h.1, nn, h.2⟩), ?_⟩
              go_big_quiet_on
              first | go_big_quiet_skip | (go_big_quiet_want; go_big_quiet_op; go_big_quiet_on)
              first | go_big_quiet_skip | (go_big_quiet_want; go_big_quiet_op; go_big_quiet_on)
              go_big_quiet_want
              go_big_quiet_op
              refine ⟨Value.int .u32 (rot 33554432 128 e0), fun nn => (rotr_25 (wr.drewN nn) e0).mono (fun e w2 h => ⟨h.1, nn, h.2⟩), ?_⟩
              go_big_quiet_on
              first | go_big_quiet_skip | (go_big_quiet_want; go_big_quiet_op; go_big_quiet_on)
              first | go_big_quiet_skip | (go_big_quiet_want; go_big_quiet_op; go_big_quiet_on)
              first | go_big_quiet_skip | (go_big_quiet_want; go_big_quiet_op; go_big_quiet_on)
              first | go_big_quiet_skip | (go_big_quiet_want; go_big_quiet_op; go_big_quiet_on)
              first | go_big_quiet_skip | (go_big_quiet_want; go_big_quiet_op; go_big_quiet_on)
              first | go_big_quiet_skip | (go_big_quiet_want; go_big_quiet_op; go_big_quiet_on)
              first | go_big_quiet_skip | (go_big_quiet_want; go_big_quiet_op; go_big_quiet_on)
              first | go_big_quiet_skip | (go_big_quiet_want; go_big_quiet_op; go_big_quiet_on)
              first | go_big_quiet_skip | (go_big_quiet_want; go_big_quiet_op; go_big_quiet_on)
              first | go_big_quiet_skip | (go_big_quiet_want; go_big_quiet_op; go_big_quiet_on)
              first | go_big_quiet_skip | (go_big_quiet_want; go_big_quiet_op; go_big_quiet_on)
              first | go_big_quiet_skip | (go_big_quiet_want; go_big_quiet_op; go_big_quiet_on)
              first | go_big_quiet_skip | (go_big_quiet_want; go_big_quiet_op; go_big_quiet_on)
              first | go_big_quiet_skip | (go_big_quiet_want; go_big_quiet_op; go_big_quiet_on)
              first | go_big_quiet_skip | (go_big_quiet_want; go_big_quiet_op; go_big_quiet_on)
              first | go_big_quiet_skip | (go_big_quiet_want; go_big_quiet_op; go_big_quiet_on)
              first | go_big_quiet_skip | (go_big_quiet_want; go_big_quiet_op; go_big_quiet_on)
              first | go_big_quiet_skip | (go_big_quiet_want; go_big_quiet_op; go_big_quiet_on)
              first | go_big_quiet_skip | (go_big_quiet_want; go_big_quiet_op; go_big_quiet_on)
              first | go_big_quiet_skip | (go_big_quiet_want; go_big_quiet_op; go_big_quiet_on)
              refine wpQuiet_nil ?_
              rintro _ ⟨nq, rfl⟩
              have HSD := hide (HSW.out.below (below_dn wr nq))
              clear ck cw HSW
              generalize wr.drewN nq = wa at *
              simp only [show bits .xor .u32 (bits .xor .u32 (rot 64 67108864 e0) (rot 2048 2097152 e0)) (rot 33554432 128 e0) = bs1 e0 from rfl]
              rw [HT1.out]
              clear HT1
              go_upto_region 24 with fail
              obtain ⟨RR, HRR⟩ := rot3 a0
              have HT2 := hide (tt2_of a0 b0 c0 RR HRR.out.1)
              go_upto_region 25 with (go_at_call 82; refine (HRR.out.2 _ _ (by decide)).mono ?_; rintro e wq ⟨rfl, rfl⟩; simp only [])
              rw [← HT2.out]
              clear HRR HT2
              generalize tt2 a0 b0 c0 = T2 at *
              repeat (first | go_values | go_skip | go_guarded | go_step | go_upon)
              first | refine HJ4.out _ _ ?rel (by kernel_rfl) rfl ?measure | refine HJ1.out _ _ ?rel (by kernel_rfl) rfl ?measure
              case rel => (try dsimp only [rdA, getL]); (exact ⟨t + 1, _, _, _, _, _, _, _, _, by omega, by go_num, rfl, rfl, rfl, rfl, rfl, rfl, rfl, rfl, by show _ = _; rw [HR2.out, HR3.out], HSD.out⟩)
              case measure => (try dsimp only [rdA, getL]); (simp [intOf]; omega)
            · obtain rfl : t = 64 := by omega
              go_wp2
              go_meet
              exact ⟨a0, b0, c0, d0, e0, f0, q0, h0, rfl, rfl, rfl, rfl, rfl, rfl, rfl, rfl, HRD, HSW.out⟩
        obtain ⟨a1, b1, c1, d1', e1, f1, q1, h1, rfl, rfl, rfl, rfl, rfl, rfl, rfl, rfl, HRD, hsw⟩ := hcut
        have HSW := hide hsw
        clear hsw HSW2
        obtain ⟨w9, hw9⟩ : ∃ W', W' = wc := ⟨_, rfl⟩
        subst hw9
        have k0 := HSW.out.s.hr 0 _ rfl
        have k1 := HSW.out.s.hr 1 _ rfl
        have k2 := HSW.out.s.hr 2 _ rfl
        have k3 := HSW.out.s.hr 3 _ rfl
        have k4 := HSW.out.s.hr 4 _ rfl
        have k5 := HSW.out.s.hr 5 _ rfl
        have k6 := HSW.out.s.hr 6 _ rfl
        have k7 := HSW.out.s.hr 7 _ rfl
        simp only [Nat.zero_add] at k0 k1 k2 k3 k4 k5 k6 k7
        have z0 := (HSW.out.s.ht 0 (by omega)).2
        have z1 := (HSW.out.s.ht 1 (by omega)).2
        have z2 := (HSW.out.s.ht 2 (by omega)).2
        have z3 := (HSW.out.s.ht 3 (by omega)).2
        have z4 := (HSW.out.s.ht 4 (by omega)).2
        have z5 := (HSW.out.s.ht 5 (by omega)).2
        have z6 := (HSW.out.s.ht 6 (by omega)).2
        have z7 := (HSW.out.s.ht 7 (by omega)).2
        simp only [Nat.zero_add] at z0 z1 z2 z3 z4 z5 z6 z7
        have HKE : Hid (hsK Y (k + 1) = [(g0 + a1) % 4294967296, (g1 + b1) % 4294967296, (g2 + c1) % 4294967296, (g3 + d1') % 4294967296, (g4' + e1) % 4294967296, (g5 + f1) % 4294967296, (g6 + q1) % 4294967296, (g7 + h1) % 4294967296]) := by
          show _ = _
          rw [HKS.out, HRD.out]
          rfl
        go_upto_region 6 with fail
        have HS2 := hide (HSW.out.s.setH [(g0 + a1) % 4294967296, (g1 + b1) % 4294967296, (g2 + c1) % 4294967296, (g3 + d1') % 4294967296, (g4' + e1) % 4294967296, (g5 + f1) % 4294967296, (g6 + q1) % 4294967296, (g7 + h1) % 4294967296] rfl)
        rw [← HKE.out] at HS2
        replace HS2 : Hid (SH w ((((((((w9.setCell ⟨D + 2, 0, none⟩ (.int .u32 ((g0 + a1) % 4294967296))).setCell ⟨D + 2, 1, none⟩ (.int .u32 ((g1 + b1) % 4294967296))).setCell ⟨D + 2, 2, none⟩ (.int .u32 ((g2 + c1) % 4294967296))).setCell ⟨D + 2, 3, none⟩ (.int .u32 ((g3 + d1') % 4294967296))).setCell ⟨D + 2, 4, none⟩ (.int .u32 ((g4' + e1) % 4294967296))).setCell ⟨D + 2, 5, none⟩ (.int .u32 ((g5 + f1) % 4294967296))).setCell ⟨D + 2, 6, none⟩ (.int .u32 ((g6 + q1) % 4294967296))).setCell ⟨D + 2, 7, none⟩ (.int .u32 ((g7 + h1) % 4294967296))) D (.slice (some ⟨g4, 0, none⟩) Y.length c4) Y (hsK Y (k + 1))) := HKE.out ▸ HSW.out.s.setH [(g0 + a1) % 4294967296, (g1 + b1) % 4294967296, (g2 + c1) % 4294967296, (g3 + d1') % 4294967296, (g4' + e1) % 4294967296, (g5 + f1) % 4294967296, (g6 + q1) % 4294967296, (g7 + h1) % 4294967296] rfl
        generalize ((((((((w9.setCell ⟨D + 2, 0, none⟩ (.int .u32 ((g0 + a1) % 4294967296))).setCell ⟨D + 2, 1, none⟩ (.int .u32 ((g1 + b1) % 4294967296))).setCell ⟨D + 2, 2, none⟩ (.int .u32 ((g2 + c1) % 4294967296))).setCell ⟨D + 2, 3, none⟩ (.int .u32 ((g3 + d1') % 4294967296))).setCell ⟨D + 2, 4, none⟩ (.int .u32 ((g4' + e1) % 4294967296))).setCell ⟨D + 2, 5, none⟩ (.int .u32 ((g5 + f1) % 4294967296))).setCell ⟨D + 2, 6, none⟩ (.int .u32 ((g6 + q1) % 4294967296))).setCell ⟨D + 2, 7, none⟩ (.int .u32 ((g7 + h1) % 4294967296))) = w10 at *
        clear k0 k1 k2 k3 k4 k5 k6 k7 z0 z1 z2 z3 z4 z5 z6 z7 HSW HKE HKS HRD
        go_wp2
        first | refine HJ1.out _ _ ?rel (by kernel_rfl) rfl ?measure
        case rel => (try dsimp only [rdA, getL]); (exact ⟨k + 1, by omega, by go_num, HS2.out⟩)
        case measure => (try dsimp only [rdA, getL]); (simp [intOf]; omega)
      · obtain rfl : k = 41 := by omega
        go_wp2
        go_meet
        exact HS.out
  replace HS := hide hcut
  clear hcut
  obtain ⟨v5, hv5⟩ : ∃ W', W' = wc := ⟨_, rfl⟩
  subst hv5
  obtain ⟨hs, hhs⟩ : ∃ hs, hsK Y 41 = hs := ⟨_, rfl⟩
  rw [hhs] at HS
  have HOD : Hid (u8s (dgK hs 8) = F) := by show _ = _; rw [← hhs, ← HOUT.out, ← HY.out]; rfl
  clear hhs hYl
  go_upto_region 27 with fail
  refine wp_region_lit ?_
  obtain ⟨i6, hi6, hz6, hy6, _⟩ := info_parts Try.inf63
  refine wpL_alloc rfl 63 rfl i6 hi6 _ hz6 ?_
  rw [show (Value.agg (u8s (List.replicate 32 0)).toArray).cells = (u8s (List.replicate 32 0)).toArray from rfl]
  have HSD : Hid (SHD w (v5.alloc (.cells (u8s (List.replicate 32 0)).toArray 63)) D (.slice (some ⟨g4, 0, none⟩) Y.length c4) Y hs v5.heap.size (dgK hs 0)) := by
    refine ⟨HS.out.below (be1 v5 _), newR v5 _ 63, by simpa [u8s] using newTz v5 (u8s (List.replicate 32 0)).toArray 63, dgK_len _ _, HS.out.sz, fun e => ?_, by simp⟩
    have := (HS.out.bb.lt _ e).2
    omega
  obtain ⟨E, hE⟩ : ∃ E, v5.heap.size = E := ⟨_, rfl⟩
  rw [hE] at HSD ⊢
  clear hE HS
  generalize v5.alloc (.cells (u8s (List.replicate 32 0)).toArray 63) = v6 at *
  go_wp2
  refine wp_loop_mix [none, none, none, none, none, none, none, none, none, none, none, none, none, none, none, none, none, none, none, none, none, none, none, none, none, some 25, none, none, none, none, none, none, none, none, none, none, none, none, none, none, none, none, none, none, none, none, none, none, none, none, none, none, none, none, none, none, none, none, none, none, none, none, none, none, none, none, none, none, none, none, none, none, none, none, none, none, none, none, none, none, none, none, none, none, none, none, none, none, none, none, none, none, none, none, none, none, none, none, none, none, none, none, none, none, none, none, none, none, none, none, none, none, none, none, none, none, none, none, none, none, none, none, none, none, none, none, none, none, none, none, none, none, none, none, none, none, none, none, none, none, none, none, none, none, none, none, none, none, none, none, none, none, none, none, none, none, none, none, none, none, none, none, none, none, none, none, none, none, none, none, none, none, none, none, none, none, none, none, none, none, none, none, none, none, none, none, none, none, none, none, none, none, none, none, none, none, none, none, none, none, none, none, none, none, none, none, none, none, none, none, none, none, none, none, none, none, none, none, none, none, none, none, none, none, none, none, none, none, none, none, none, none, none, none, none, none, none, none, none, none, none, none, some 242, some 243, some 244, some 245, some 246, some 247, some 248, some 249, some 250, some 251, some 252, some 253, some 254, some 255, some 256, some 257, some 258, some 259, some 260, some 261, some 262, some 263, some 264, some 265, some 266, some 267, some 268, some 269, some 270, some 271, some 272, some 273, some 274, some 275, some 276, some 277, some 278, some 279, none] (by kernel_rfl) (fun us wy => (fun s25 wr => ∃ i : Nat, i ≤ 8 ∧ s25 = .int .i64 i ∧ SHD w wr D (.slice (some ⟨g4, 0, none⟩) Y.length c4) Y hs E (dgK hs i)) (us 25) wy) (fun us wy => (fun s25 _ => 8 - (intOf s25).toNat) (us 25) wy) ?atStart ?round
  case atStart => (dsimp only [getL]; exact ⟨0, Nat.zero_le _, rfl, HSD.out⟩)
  case round =>
    intro us wr hrel J5 hJ5
    dsimp only at hrel hJ5
    dsimp only [mixF]
    generalize us 25 = s25 at hrel hJ5 ⊢
    have HJ5 := hide hJ5
    clear hJ5
    clear HSD
    obtain ⟨i, hi, rfl, hsd⟩ := hrel
    have HSD := hide hsd
    clear hsd
    by_cases hil : i < 8
    · have d1 : decide ((i : Int) < 8) = true := by simp; omega
      have il : (i : Int) < 8 := by omega
      obtain ⟨dg, hdg⟩ : ∃ dg, dgK hs i = dg := ⟨_, rfl⟩
      rw [hdg] at HSD
      obtain ⟨x, hx⟩ : ∃ x, fld hs i = x := ⟨_, rfl⟩
      have HDG : Hid (dgK hs (i + 1) = ((((dg.set (4 * i) (x / 16777216 % 256)).set (4 * i + 1) (x / 65536 % 256)).set (4 * i + 2) (x / 256 % 256)).set (4 * i + 3) (x % 256))) := by
        show _ = _; rw [dgK, itr, ← hdg, ← hx]; rfl
      clear hdg
      have ch : ∀ {wq : World} {dq : List Int}, SHD w wq D (.slice (some ⟨g4, 0, none⟩) Y.length c4) Y hs E dq → wq.cell? ⟨D + 2, i, none⟩ = some (.int .u32 x) := fun {wq dq} hh => by
        have := hh.s.hr i _ (u32_fld (by rw [hh.s.hl]; exact hil))
        rw [Nat.zero_add, hx] at this
        exact this
      have HCH : Hid (∀ (wq : World) (dq : List Int), SHD w wq D (.slice (some ⟨g4, 0, none⟩) Y.length c4) Y hs E dq → wq.cell? ⟨D + 2, i, none⟩ = some (.int .u32 x)) := fun wq dq hh => ch hh
      clear hx ch
      obtain ⟨N, hN⟩ : ∃ N : Nat, 4 * i = N := ⟨_, rfl⟩
      have HN := hide hN
      have hNi : 4 * (i : Int) = (N : Int) := by omega
      have n0 : (N : Int) < 32 := by omega
      have n1 : (N : Int) + 1 < 32 := by omega
      have n2 : (N : Int) + 2 < 32 := by omega
      have n3 : (N : Int) + 3 < 32 := by omega
      have m1 : ((N : Int) + 1).toNat = N + 1 := by omega
      have m2 : ((N : Int) + 2).toNat = N + 2 := by omega
      have m3 : ((N : Int) + 3).toNat = N + 3 := by omega
      have q0 : IntKind.i64.wrap (N : Int) = N := by rw [IntKind.wrap_i64]; omega
      have q1 : IntKind.i64.wrap ((N : Int) + 1) = (N : Int) + 1 := by rw [IntKind.wrap_i64]; omega
      have q2 : IntKind.i64.wrap ((N : Int) + 2) = (N : Int) + 2 := by rw [IntKind.wrap_i64]; omega
      have q3 : IntKind.i64.wrap ((N : Int) + 3) = (N : Int) + 3 := by rw [IntKind.wrap_i64]; omega
      rw [hN] at HDG
      clear hN
      have c0 := HCH.out _ _ HSD.out
      have e0 := HSD.out.cell (j := N) (by omega)
      have f0 := HSD.out.fz (j := N) (by omega)
      go_upto_region 32 with fail
      have HS0 := hide (HSD.out.set (N) (x / 16777216 % 256))
      generalize (wr.setCell ⟨E, N, none⟩ (.int .u8 (x / 16777216 % 256))) = v0 at *
      clear HSD c0 e0 f0
      have c1 := HCH.out _ _ HS0.out
      have e1 := HS0.out.cell (j := N + 1) (by omega)
      have f1 := HS0.out.fz (j := N + 1) (by omega)
      go_upto_region 33 with fail
      have HS1 := hide (HS0.out.set (N + 1) (x / 65536 % 256))
      generalize (v0.setCell ⟨E, N + 1, none⟩ (.int .u8 (x / 65536 % 256))) = v1 at *
      clear HS0 c1 e1 f1
      have c2 := HCH.out _ _ HS1.out
      have e2 := HS1.out.cell (j := N + 2) (by omega)
      have f2 := HS1.out.fz (j := N + 2) (by omega)
      go_upto_region 34 with fail
      have HS2 := hide (HS1.out.set (N + 2) (x / 256 % 256))
      generalize (v1.setCell ⟨E, N + 2, none⟩ (.int .u8 (x / 256 % 256))) = v2 at *
      clear HS1 c2 e2 f2
      have c3 := HCH.out _ _ HS2.out
      have e3 := HS2.out.cell (j := N + 3) (by omega)
      have f3 := HS2.out.fz (j := N + 3) (by omega)
      go_upto_region 30 with fail
      have HS3 := hide (HS2.out.set (N + 3) (x % 256))
      generalize (v2.setCell ⟨E, N + 3, none⟩ (.int .u8 (x % 256))) = v3 at *
      clear HS2 c3 e3 f3
      rw [← HDG.out] at HS3
      clear HCH n0 n1 n2 n3 m1 m2 m3 q0 q1 q2 q3 hNi
      go_wp2
      first | refine HJ5.out _ _ ?rel (by kernel_rfl) rfl ?measure
      case rel => (try dsimp only [rdA, getL]); (exact ⟨i + 1, by omega, by go_num, HS3.out⟩)
      case measure => (try dsimp only [rdA, getL]); (simp [intOf]; omega)
    · obtain rfl : i = 8 := by omega
      have HR5 : Hid (wr.rangeAt E 0 F) := by have := HSD.out.r; rw [HOD.out] at this; exact this
      have HT5 := hide HSD.out.s.rt
      have HB5 := hide HSD.out.s.be
      have HDE := hide HSD.out.s.eD
      clear HSD
      go_upto_region 35 with fail
      refine wp_region_lit ?_
      refine wpList_load_mid rfl 63 (.tmp 24) rfl E 0 rfl F _ HR5.out Try.underlying63 rfl (by rw [HFl.out]; exact Try.sz63) ?_
      refine wpList_store_mid rfl 63 (.tmp 2) (.tmp 280) rfl D 0 F.toArray rfl rfl (by simpa [HFl.out] using HT5.out) (by simpa [HFl.out] using Try.sz63) (all_oneCell_toArray HF1.out) ?_
      rw [show F.toArray.toList = F by simp]
      have HRZ := hide (World.rangeAt_setCells_same wr D 0 F (by rw [HFl.out]; exact HT5.out))
      have HB6 : Hid (Below w.heap.size w (wr.setCells D 0 F)) := HB5.out.trans ((Ex.sets (S := fun j => j = D) rfl F 0 wr (Ex.refl _ _)).below HB5.out.size (fun j hj e => by have := HDE.out; omega))
      generalize wr.setCells D 0 F = wz at *
      clear HR5 HT5 HB5 HOD HY HYl HBB HX HOUT
      repeat (first | go_values | go_skip | go_step | go_upon)
      exact bodyPost_ret (v := .agg F.toArray) (res_cell Try.results58 rfl (run_loadVar_mid wz D 0 63 F _ HRZ.out Try.underlying63 rfl (by rw [HFl.out]; exact Try.sz63))) rfl ⟨rfl, HB6.out⟩
end Go.Proofs.Qxb6500784a
