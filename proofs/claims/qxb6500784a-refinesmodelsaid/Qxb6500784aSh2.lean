import Derived.Test.Qxb6500784aSh1
namespace Go.Proofs.Qxb6500784a
open Go.RowKit

def lenV : Value → Nat
  | .slice _ n _ => n
  | _ => 0
/-- From w on only new blocks, and a buffer among them. -/
structure NBf (w w' : World) (v' : Value) (Y : List Int) : Prop where
  bb : BB w' w.heap.size v' Y
  be : Below w.heap.size w w'
theorem NBf.step {w w1 w2 : World} {v1 v2 : Value} {X Y : List Int} (h : NBf w w1 v1 X) (k : BG w1 w.heap.size v1 w2 v2 Y) : NBf w w2 v2 Y :=
  ⟨k.bb, ⟨k.ex.os.trans h.be.os, k.ex.tape.trans h.be.tape, k.ex.output.trans h.be.output, Nat.le_trans h.be.size k.ex.size, fun j hj => (k.ex.block j (Nat.lt_of_lt_of_le hj h.be.size) (fun e => by have := (h.bb.lt j e).1; omega)).trans (h.be.block j hj)⟩⟩
theorem NBf.below {w w1 w2 : World} {v1 : Value} {X : List Int} (h : NBf w w1 v1 X) (k : Below w1.heap.size w1 w2) : NBf w w2 v1 X := ⟨h.bb.below k, lec h.be k⟩
def padP (X : List Int) : List Int := X ++ [128] ++ List.replicate 55 0 ++ putP 20480
set_option linter.unusedSimpArgs false in
set_option maxRecDepth 100000 in
set_option maxHeartbeats 4000000 in
/-- digestm.pad -/
theorem pad_any (w : World) (v : Value) (X : List Int) (h : BB w 0 v X) (hX : X.length = 2560) :
    Calls Try.prog 81 #[v] w fun e w' => ∃ v', e = .returned v' ∧ NBf w w' v' (padP X) := by
  obtain ⟨i0, hi0, hz0, hz1, hz2⟩ := info_parts Try.inf5
  have HI := hide (And.intro hi0 (And.intro hz0 (And.intro hz1 hz2)))
  clear hi0 hz0 hz1 hz2
  obtain ⟨a, c, rfl⟩ := own_form h
  have HBB := hide h
  have HXL0 := hide hX
  have hXb : X.length ≤ 3000 := by omega
  clear h hX
  obtain ⟨Y, hY⟩ : ∃ Y, padP X = Y := ⟨_, rfl⟩
  rw [hY]
  have HY := hide hY
  clear hY
  go_enter Try.func81, Try.ntmps81
  go_upto_region 3 with (at_builtin; go_loud (refine app_copy rfl (.tmp 6) (.tmp 7) 93 rfl 5 i0 _ 1 1 Try.underlying93 HI.out.1 HI.out.2.1 HI.out.2.2.1 HI.out.2.2.2 rfl (by decide) rfl (.slice a X.length c) X.length (X.map (Value.int .u8)) rfl HBB.out (fun u hu => by obtain ⟨x, _, rfl⟩ := List.mem_map.1 hu; rfl) (by unfold maxLen; omega) (by omega) ?_; intro v1 w1 hr1 hg1; have HNB := hide (show NBf w w1 v1 X from ⟨hr1, ⟨hg1.os, hg1.tape, hg1.output, hg1.size, fun j hj => hg1.block j hj (by simp)⟩⟩); clear hr1 hg1))
  obtain ⟨a1, c1, e1⟩ := own_form HNB.out.bb
  subst e1
  obtain ⟨B, hBe⟩ : ∃ B, w.heap.size = B := ⟨_, rfl⟩
  have HB1 : Hid (BB w1 B (.slice a1 X.length c1) X) := by rw [← hBe]; exact HNB.out.bb
  have HBS : Hid (B ≤ w1.heap.size) := by rw [← hBe]; exact HNB.out.be.size
  have HXL : Hid (X.length ≤ 3000) := hXb
  have HBE := hide hBe
  clear hBe
  have HZw2 := hide (show BB (w1.alloc (.cells #[.int .u8 128] 5)) B (.slice a1 X.length c1) (X) from BB.below HB1.out (be1 w1 _))
  have HSw2 := hide (show B ≤ (w1.alloc (.cells #[.int .u8 128] 5)).heap.size from Nat.le_trans HBS.out (be1 w1 _).size)
  have HNw2 := hide (show ∀ (j : Nat) (u : Value), ([.int .u8 128] : List Value)[j]? = some u → (w1.alloc (.cells #[.int .u8 128] 5)).cell? ((⟨w1.heap.size, 0, none⟩ : Addr).add j) = some u from fun j u hj => new_cells w1 [.int .u8 128] 5 j u hj)
  go_upto_block 0 with (at_builtin; go_loud (refine wpList_append_lies _ rfl (.tmp 9) (.tmp 10) 93 rfl B 5 i0 _ 1 1 Try.underlying93 HI.out.1 HI.out.2.1 HI.out.2.2.1 HI.out.2.2.2 rfl (by decide) (.slice a1 X.length c1) (X).length ((X).map (Value.int .u8)) rfl HZw2.out ⟨w1.heap.size, 0, none⟩ 1 1 [.int .u8 128] rfl rfl HNw2.out (fun u hu => by simp at hu; (first | (subst hu; rfl) | (rcases hu with hu | hu <;> (subst hu; rfl)))) (by decide) (by have := HXL.out; unfold maxLen; omega) (by have := HXL.out; omega) HSw2.out _ rfl ?_; intro gw2 capw2 w2 hr hg hat hlt2; have HPw2 := hide (bg_app (Z := [128]) HB1.out hr hg hat); clear hr hg hat hlt2 HZw2 HSw2 HNw2))
  obtain ⟨X1, hQw2⟩ : ∃ X1, (X) ++ [128] = X1 := ⟨_, rfl⟩
  have HQw2 := hide hQw2.symm
  rw [hQw2] at HPw2
  rw [show (X).length + 1 = X1.length from by rw [← hQw2]; simp only [List.length_append, List.length_cons, List.length_nil]]
  clear hQw2
  replace HNB : Hid (NBf w w2 (.slice (some ⟨gw2, 0, none⟩) X1.length capw2) X1) := HNB.out.step (by rw [HBE.out]; exact HPw2.out)
  have HL1 : Hid (X1.length = 2561) := by show X1.length = _; rw [HQw2.out]; simp [HXL0.out]
  clear HPw2 HB1 HBS HXL
  obtain ⟨a2, ha2⟩ : ∃ a2 : Option Addr, some (⟨gw2, 0, none⟩ : Addr) = a2 := ⟨_, rfl⟩
  rw [ha2] at HNB ⊢
  clear ha2
  go_cut [3] (fun x wr => ∃ (a : Option Addr) (c : Nat) (Q : List Int), x = .slice a Q.length c ∧ Hid (Q = X1 ++ List.replicate 55 0) ∧ NBf w wr (.slice a Q.length c) Q)
  case first =>
    go_wp2
    go_loopw [3] (fun x wr => ∃ (k : Nat) (a : Option Addr) (c : Nat) (Q : List Int), k ≤ 55 ∧ x = .slice a Q.length c ∧ Hid (Q = X1 ++ List.replicate k 0) ∧ NBf w wr (.slice a Q.length c) Q) (fun x _ => 2616 - lenV x)
    case atStart => exact ⟨0, a2, capw2, X1, by omega, rfl, by simp [Hid], HNB.out⟩
    case round =>
      clear HNB
      obtain ⟨k, a, c, Q, hk, rfl, HQ, hb⟩ := hrel
      have HB := hide hb
      have HQL : Hid (Q.length = 2561 + k) := by show Q.length = _; rw [HQ.out, List.length_append, HL1.out]; simp
      clear hb
      by_cases hlt : k < 55
      · have d1 : ((Q.length : Int) % 64 != 56) = true := by have := HQL.out; simp; omega
        have HBS : Hid (B ≤ wr.heap.size) := by rw [← HBE.out]; exact HB.out.be.size
        have HBQ : Hid (BB wr B (.slice a Q.length c) Q) := by rw [← HBE.out]; exact HB.out.bb
        have HXL : Hid (Q.length ≤ 3000) := by show Q.length ≤ 3000; have := HQL.out; omega
        have HZw4 := hide (show BB (wr.alloc (.cells #[.int .u8 0] 5)) B (.slice a Q.length c) (Q) from BB.below HBQ.out (be1 wr _))
        have HSw4 := hide (show B ≤ (wr.alloc (.cells #[.int .u8 0] 5)).heap.size from Nat.le_trans HBS.out (be1 wr _).size)
        have HNw4 := hide (show ∀ (j : Nat) (u : Value), ([.int .u8 0] : List Value)[j]? = some u → (wr.alloc (.cells #[.int .u8 0] 5)).cell? ((⟨wr.heap.size, 0, none⟩ : Addr).add j) = some u from fun j u hj => new_cells wr [.int .u8 0] 5 j u hj)
        go_wp2_with (at_builtin; go_loud (refine wpList_append_lies _ rfl (.tmp 16) (.tmp 17) 93 rfl B 5 i0 _ 1 1 Try.underlying93 HI.out.1 HI.out.2.1 HI.out.2.2.1 HI.out.2.2.2 rfl (by decide) (.slice a Q.length c) (Q).length ((Q).map (Value.int .u8)) rfl HZw4.out ⟨wr.heap.size, 0, none⟩ 1 1 [.int .u8 0] rfl rfl HNw4.out (fun u hu => by simp at hu; (first | (subst hu; rfl) | (rcases hu with hu | hu <;> (subst hu; rfl)))) (by decide) (by have := HXL.out; unfold maxLen; omega) (by have := HXL.out; omega) HSw4.out _ rfl ?_; intro gw4 capw4 w4 hr hg hat hlt2; have HPw4 := hide (bg_app (Z := [0]) HBQ.out hr hg hat); clear hr hg hat hlt2 HZw4 HSw4 HNw4))
        obtain ⟨Q2, hQw4⟩ : ∃ Q2, (Q) ++ [0] = Q2 := ⟨_, rfl⟩
        have HQw4 := hide hQw4.symm
        rw [hQw4] at HPw4
        rw [show (Q).length + 1 = Q2.length from by rw [← hQw4]; simp only [List.length_append, List.length_cons, List.length_nil]]
        clear hQw4
        have HQ2 : Hid (Q2 = X1 ++ List.replicate (k + 1) 0) := by show Q2 = _; rw [HQw4.out, HQ.out, List.replicate_succ', List.append_assoc]
        have HNB2 : Hid (NBf w w4 (.slice (some ⟨gw4, 0, none⟩) Q2.length capw4) Q2) := HB.out.step (by rw [HBE.out]; exact HPw4.out)
        have HQ2l : Hid (Q2.length = 2562 + k) := by show Q2.length = _; rw [HQw4.out, List.length_append, HQL.out]; simp; omega
        clear HQw4 HPw4 HB HBQ HBS HXL HQ
        go_wp2
        go_roundw
        case rel => exact ⟨k + 1, _, _, Q2, by omega, rfl, HQ2, HNB2.out⟩
        case measure => simp only [lenV]; have := HQ2l.out; have := HQL.out; omega
      · obtain rfl : k = 55 := by omega
        have d1 : ((Q.length : Int) % 64 != 56) = false := by have := HQL.out; simp; omega
        go_wp2
        go_meet
        exact ⟨_, _, Q, rfl, HQ, HB.out⟩
  obtain ⟨a3, c3, X2, rfl, HX2, hnb⟩ := hcut
  replace HNB := hide hnb
  have HL2 : Hid (X2.length = 2616) := by show X2.length = _; rw [HX2.out, List.length_append, HL1.out]; rfl
  clear hnb
  have hm : (X.length : Int) = 2560 := by have := HXL0.out; omega
  go_wp2
  go_loopw [3, 5] (fun x y wr => ∃ (k : Nat) (a : Option Addr) (c : Nat) (Q : List Int), k ≤ 8 ∧ y = .int .i64 (7 - (k : Int)) ∧ x = .slice a Q.length c ∧ Hid (Q = X2 ++ putN 20480 k) ∧ NBf w wr (.slice a Q.length c) Q) (fun _ y _ => (intOf y + 1).toNat)
  case atStart => exact ⟨0, a3, c3, X2, by omega, rfl, rfl, by simp [putN, Hid], HNB.out⟩
  case round =>
    clear HNB
    obtain ⟨k, a, c, Q, hk, rfl, rfl, HQ, hb⟩ := hrel
    have HB := hide hb
    clear hb
    by_cases hlt : k < 8
    · have d1 : decide ((k : Int) ≤ 7) = true := by simp; omega
      have hw1 : IntKind.u64.wrap (7 - (k : Int)) = 7 - k := by rw [IntKind.wrap_u64]; omega
      have hw2 : IntKind.u64.wrap (8 * (7 - (k : Int))) = 8 * (7 - k) := by rw [IntKind.wrap_u64]; omega
      have HBS : Hid (B ≤ wr.heap.size) := by rw [← HBE.out]; exact HB.out.be.size
      have HBQ : Hid (BB wr B (.slice a Q.length c) Q) := by rw [← HBE.out]; exact HB.out.bb
      have HXL : Hid (Q.length ≤ 3000) := by show Q.length ≤ 3000; rw [HQ.out, List.length_append, putN_len, HL2.out]; omega
      have HZw6 := hide (show BB (wr.alloc (.cells #[.int .u8 (20480 / 2 ^ (8 * (7 - k)) % 256)] 5)) B (.slice a Q.length c) (Q) from BB.below HBQ.out (be1 wr _))
      have HSw6 := hide (show B ≤ (wr.alloc (.cells #[.int .u8 (20480 / 2 ^ (8 * (7 - k)) % 256)] 5)).heap.size from Nat.le_trans HBS.out (be1 wr _).size)
      have HNw6 := hide (show ∀ (j : Nat) (u : Value), ([.int .u8 (20480 / 2 ^ (8 * (7 - k)) % 256)] : List Value)[j]? = some u → (wr.alloc (.cells #[.int .u8 (20480 / 2 ^ (8 * (7 - k)) % 256)] 5)).cell? ((⟨wr.heap.size, 0, none⟩ : Addr).add j) = some u from fun j u hj => new_cells wr [.int .u8 (20480 / 2 ^ (8 * (7 - k)) % 256)] 5 j u hj)
      go_wp2_with (at_builtin; go_loud (refine wpList_append_lies _ rfl (.tmp 27) (.tmp 34) 93 rfl B 5 i0 _ 1 1 Try.underlying93 HI.out.1 HI.out.2.1 HI.out.2.2.1 HI.out.2.2.2 rfl (by decide) (.slice a Q.length c) (Q).length ((Q).map (Value.int .u8)) rfl HZw6.out ⟨wr.heap.size, 0, none⟩ 1 1 [.int .u8 (20480 / 2 ^ (8 * (7 - k)) % 256)] rfl rfl HNw6.out (fun u hu => by simp at hu; (first | (subst hu; rfl) | (rcases hu with hu | hu <;> (subst hu; rfl)))) (by decide) (by have := HXL.out; unfold maxLen; omega) (by have := HXL.out; omega) HSw6.out _ rfl ?_; intro gw6 capw6 w6 hr hg hat hlt2; have HPw6 := hide (bg_app (Z := [20480 / 2 ^ (8 * (7 - k)) % 256]) HBQ.out hr hg hat); clear hr hg hat hlt2 HZw6 HSw6 HNw6))
      obtain ⟨Q2, hQw6⟩ : ∃ Q2, (Q) ++ [20480 / 2 ^ (8 * (7 - k)) % 256] = Q2 := ⟨_, rfl⟩
      have HQw6 := hide hQw6.symm
      rw [hQw6] at HPw6
      rw [show (Q).length + 1 = Q2.length from by rw [← hQw6]; simp only [List.length_append, List.length_cons, List.length_nil]]
      clear hQw6
      have HQ2 : Hid (Q2 = X2 ++ putN 20480 (k + 1)) := by show Q2 = _; rw [HQw6.out, HQ.out, putN_succ, List.append_assoc]; rfl
      have HNB2 : Hid (NBf w w6 (.slice (some ⟨gw6, 0, none⟩) Q2.length capw6) Q2) := HB.out.step (by rw [HBE.out]; exact HPw6.out)
      clear HQw6 HPw6 HB HBQ HBS HXL HQ
      go_wp2
      go_roundw
      case rel => exact ⟨k + 1, _, _, Q2, by omega, by go_num, rfl, HQ2, HNB2.out⟩
      case measure => simp [intOf]; omega
    · obtain rfl : k = 8 := by omega
      have d1 : decide (((8 : Nat) : Int) ≤ 7) = false := rfl
      have HQ3 : Hid (Q = Y) := by show Q = Y; rw [HQ.out, ← HY.out, HX2.out, HQw2.out]; rfl
      clear HQ
      go_wp2
      go_ret
      exact ⟨_, rfl, by rw [← HQ3.out]; exact HB.out⟩
end Go.Proofs.Qxb6500784a
