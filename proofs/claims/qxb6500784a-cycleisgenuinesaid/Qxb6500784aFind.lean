import Derived.Test.Qxb6500784aOrder
namespace Go.Proofs.Qxb6500784a
open Go.RowKit

structure MetAt (w : World) (q : Nat) (M : Nat → Int) : Prop where
  c : ∀ j, j < 8 → w.cell? ⟨q, j, none⟩ = some (.int .i64 (M j))
  f : ∀ j, w.frozen? ⟨q, j, none⟩ = false
theorem MetAt.set {w : World} {q t : Nat} {M : Nat → Int} {y : Int} (h : MetAt w q M) : MetAt (w.setCell ⟨q, t, none⟩ (.int .i64 y)) q (fun x => if x = t then y else M x) := by
  refine ⟨fun j hj => ?_, fun j => ?_⟩
  · by_cases e : j = t
    · subst e
      rw [World.cell?_setCell_same _ _ _ (h.c j hj), if_pos rfl]
    · rw [World.cell?_setCell_other _ _ _ _ (by simp <;> omega), if_neg e]; exact h.c j hj
  · simpa [go_sem] using h.f j
theorem MetAt.at {w w' : World} {B q : Nat} {M : Nat → Int} (h : MetAt w q M) (hq : q < B) (hb : Below B w w') : MetAt w' q M :=
  ⟨fun j hj => (bat hb _ hq).trans (h.c j hj), fun j => (hb.frozen (p := ⟨q, j, none⟩) hq).trans (h.f j)⟩
theorem MetAt.cong {w : World} {q : Nat} {M M' : Nat → Int} (h : MetAt w q M) (e : ∀ j, j < 8 → M j = M' j) : MetAt w q M' := ⟨fun j hj => by rw [← e j hj]; exact h.c j hj, h.f⟩
theorem met0 (w : World) : MetAt (w.alloc (.cells #[.int .i64 0, .int .i64 0, .int .i64 0, .int .i64 0, .int .i64 0, .int .i64 0, .int .i64 0, .int .i64 0] 135)) w.heap.size (fun _ => 0) := by
  refine ⟨fun j hj => ?_, fun j => by simp [go_sem]⟩
  rcases (by omega : j = 0 ∨ j = 1 ∨ j = 2 ∨ j = 3 ∨ j = 4 ∨ j = 5 ∨ j = 6 ∨ j = 7) with e | e | e | e | e | e | e | e <;> subst e <;> simp [go_sem]
theorem owns_form {w : World} {B e s n : Nat} {v : Value} {xs : List Value} (h : w.ownsRow B e s v n xs) : ∃ ao cap, v = .slice ao n cap ∧ ∀ b o, ao = some ⟨b, o, none⟩ → B ≤ b := by
  obtain ⟨h1, ⟨a, b⟩ | ⟨g, cap, cur, a, b, c⟩⟩ := h
  · exact ⟨none, 0, by rw [a, b], fun b o h => by cases h⟩
  · exact ⟨some ⟨g, 0, none⟩, cap, a, fun b' o h => by injection h with h; injection h with h; omega⟩
theorem owns_some {w : World} {B e n : Nat} {v : Value} {xs : List Value} (h : w.ownsRow B e 1 v n xs) (hn : 0 < n) : ∃ g cap, v = .slice (some ⟨g, 0, none⟩) n cap ∧ B ≤ g ∧ n ≤ cap ∧ ∀ j x, xs[j]? = some x → w.cell? ⟨g, j, none⟩ = some x := by
  have hc := @World.ownsRow.cells _ _ _ _ _ _ _ h
  obtain ⟨h1, ⟨a, b⟩ | ⟨g, cap, cur, a, b, c, d, _⟩⟩ := h
  · omega
  · refine ⟨g, cap, a, b, d, fun j x hj => ?_⟩
    have := hc (g := g) (by rw [a]; rfl) j x hj
    rwa [Addr.add_mid, Nat.zero_add] at this
theorem grown_set (w : World) (p : Addr) (v : Value) : w.grownBy (w.setCell p v) (some p.block) :=
  ⟨rfl, rfl, rfl, by simp, fun k _ hk => Below.heap_setCell w p v k (fun e => hk (by rw [e]))⟩
theorem owns_set {w : World} {B e s n q t : Nat} {v y : Value} {xs : List Value} (h : w.ownsRow B e s v n xs) (hq : q < B) : (w.setCell ⟨q, t, none⟩ y).ownsRow B e s v n xs := by
  refine h.kept (grown_set w ⟨q, t, none⟩ y) ?_
  cases hv : v.ownBlock with
  | none => exact Or.inl rfl
  | some k =>
    right
    have := (h.lt k hv).1
    intro e
    injection e with e
    simp at e
    omega
theorem after_append {W W5 w6 : World} {P q len : Nat} {gn : Int} {m : Nat → Nat} {M : Nat → Int} {v : Value} {xs : List Value} {o : Obj} (hown : W5.ownsRow (q + 1) 3 1 v len xs) (hG : G9 W5 P gn m) (hA : MetAt W5 q M) (hB : Below W.heap.size W W5) (hPq : P < q) (hwq : W.heap.size ≤ q) (hS : q + 1 ≤ W5.heap.size) (hg : (W5.alloc o).grownBy w6 v.ownBlock) :
    G9 w6 P gn m ∧ MetAt w6 q M ∧ Below W.heap.size W w6 ∧ q + 1 ≤ w6.heap.size := by
  have hb : Below (q + 1) W5 w6 := ((Below.refl _ _).alloc hS o).grown hg (by simp; omega) (fun k h => (hown.lt k h).1)
  exact ⟨hG.at (by omega) hb, hA.at (by omega) hb, hB.trans (hb.mono (by omega)), Nat.le_trans hS hb.size⟩
set_option maxRecDepth 100000 in
set_option maxHeartbeats 4000000 in
theorem find_any (w : World) (a : Option Addr) (n cap : Nat) (L : Nat → Leg) (hn : n ≤ 9223372036854775807) (hL : LegsAt w a n L) :
    Calls Try.prog 32 #[.agg #[.slice a n cap]] w fun e w' => ∃ v, e = .returned (.tuple #[v, .int .i64 (ordCode n L)]) ∧ Below w.heap.size w w' ∧ (ordCode n L ≠ 67 → v = .slice none 0 0) ∧
      (ordCode n L = 67 → n ≤ 8 ∧ NeedBits n L (needM n L) ∧ ∃ b off len cp C, v = .slice (some ⟨b, off, none⟩) len cp ∧ len ≤ cp ∧ Cyc (needM n L) (stuckP n (needM n L)) len C ∧ ∀ j, j < len → w'.cell? ⟨b, off + j, none⟩ = some (.int .i64 (C j : Nat))) := by
  obtain ⟨i0, hi, hz0, hz1, hz2⟩ := info_parts Try.inf3
  have HL := hide hL
  clear hL
  go_enter Try.func32, Try.ntmps32
  go_wp2_with fail
  have HB0 : Hid (Below w.heap.size w (w.alloc (.cells #[.slice a n cap] 27))) := (Below.refl _ _).alloc (Nat.le_refl _) _
  refine (build_any _ a n cap L hn (HL.out.below HB0.out)).mono ?_
  rintro e w1 ⟨gn, m, rfl, hm, hz, hb⟩
  have HM := hide hm
  have HZ := hide hz
  have HB1 : Hid (Below w.heap.size w w1) := HB0.out.trans (hb.mono HB0.out.size)
  clear hm hz hb HB0
  simp only [gArr]
  go_upto_region 2 with fail
  obtain ⟨W, hW⟩ : ∃ W, W = (w1.alloc (.cells #[.int .i64 gn, .int .u8 (m 0), .int .u8 (m 1), .int .u8 (m 2), .int .u8 (m 3), .int .u8 (m 4), .int .u8 (m 5), .int .u8 (m 6), .int .u8 (m 7)] 108)) := ⟨_, rfl⟩
  have HG : Hid (G9 W w1.heap.size gn m) := by rw [hW]; exact galloc w1 gn m
  have HB2 : Hid (Below w.heap.size w W) := by rw [hW]; exact HB1.out.alloc HB1.out.size _
  rw [← hW]
  clear hW HB1
  by_cases hz : bCode n L = 0
  · rw [hz]
    obtain ⟨h0, h8⟩ := bCode_zero hz
    obtain ⟨rfl, hnb⟩ := HZ.out hz
    have he := needM_eq hnb
    have HE := hide he
    have HZ0 := hide hz
    have HNB := hide hnb
    clear HZ hz hnb he
    go_wp2_with fail
    refine (sort_any _ _ n m h0 h8 HM.out HG.out).mono ?_
    rintro e w2 ⟨v, rfl, hown, hb2⟩
    have HG2 := hide (HG.out.below hb2)
    have HB3 : Hid (Below w.heap.size w w2) := HB2.out.trans (hb2.mono HB2.out.size)
    clear hown hb2 HB2 HG
    by_cases hs : stuckP n m = 0
    · rw [hs]
      have HC : Hid (ordCode n L = 0) := ordCode_ok HZ0.out (by rw [← HE.out]; exact hs)
      go_wp2
      refine bodyPost_ret (v := .tuple #[.slice none 0 0, .int .i64 0]) (by simp [results, Try.results32, go_sem]) rfl ⟨_, by rw [HC.out], HB3.out, fun h => rfl, fun h => ?_⟩
      rw [HC.out] at h; cases h
    · have HC : Hid (ordCode n L = 67) := ordCode_cyc HZ0.out (by rw [← HE.out]; exact hs)
      have hXlt := stuck_lt (m := m) h8
      have HX : Hid (∀ i, (stuckP n m).testBit i = true → m i &&& stuckP n m ≠ 0) := fun i hi => stuck_needs h8 (fun i j hij => ((HNB.out i j).1 hij).2.1) hi
      have HXV : Hid (stuckP n m = stuckP n (needM n L)) := by rw [← HE.out]; exact rfl
      generalize stuckP n m = X at *
      go_upto_region 8 with fail
      have e0 : ((X : Int) == 0) = false := by simp [hs]
      rw [e0]
      clear e0
      obtain ⟨W3, hW3⟩ : ∃ W3, W3 = (w2.alloc (.cells #[.int .i64 0, .int .i64 0, .int .i64 0, .int .i64 0, .int .i64 0, .int .i64 0, .int .i64 0, .int .i64 0] 135)) := ⟨_, rfl⟩
      have HA3 : Hid (MetAt W3 w2.heap.size (fun _ => 0)) := by rw [hW3]; exact met0 w2
      have hPq : w1.heap.size < w2.heap.size := World.block_lt_of_cell? _ _ HG2.out.c0
      have hwq : w.heap.size ≤ w2.heap.size := HB3.out.size
      have HG3 : Hid (G9 W3 w1.heap.size n m) := by rw [hW3]; exact HG2.out.below ((Below.refl _ _).alloc (Nat.le_refl _) _)
      have HB4 : Hid (Below w.heap.size w W3) := by rw [hW3]; exact HB3.out.alloc hwq _
      have hS3 : w2.heap.size + 1 ≤ W3.heap.size := by rw [hW3]; simp
      rw [← hW3]
      clear hW3 HB3 HG2
      generalize w1.heap.size = P at *
      generalize w2.heap.size = q at *
      go_wp2
      go_loopw [26] (fun s wr => ∃ k : Nat, k ≤ 8 ∧ s = .int .i64 k ∧ MetAt wr q (fun j => if j < k then -1 else 0) ∧ G9 wr P n m ∧ Below w.heap.size w wr ∧ q + 1 ≤ wr.heap.size) (fun i _ => 8 - (intOf i).toNat)
      case atStart => exact ⟨0, by omega, rfl, HA3.out.cong fun j _ => by simp, HG3.out, HB4.out, hS3⟩
      case round =>
        obtain ⟨k, hk, rfl, hA, hG, hB, hS⟩ := hrel
        have HA := hide hA
        have HG := hide hG
        have HB := hide hB
        clear hA hG hB HA3 HG3 HB4 hS3 W3
        by_cases hlt : k < 8
        · have f1 := HA.out.f k
          have c1 := HA.out.c k hlt
          go_wp2
          go_roundw
          case rel =>
            refine ⟨k + 1, by omega, by go_num, HA.out.set.cong fun j hj => ?_, HG.out.other (by omega), HB.out.setCell (by simp; omega) _, by simpa using hS⟩
            by_cases e : j = k
            · subst e; simp
            · simp [e, show (j < k + 1) = (j < k) by simp; omega]
          case measure => simp [intOf]; omega
        · replace HA : Hid (MetAt wr q (fun _ => -1)) := HA.out.cong fun j hj => by simp; omega
          go_wp2_with fail
          refine (lowest_any _ X hXlt hs).mono ?_
          rintro e w' ⟨t0, rfl, ht0, hx0, rfl⟩
          have HX0 := hide hx0
          clear hx0
          go_wp2
          go_loopw [10, 11] (fun v s wr => ∃ (V : List Nat) (M : Nat → Int) (t : Nat), wr.ownsRow (q + 1) 3 1 v V.length (vals V) ∧ s = .int .i64 t ∧ WalkOk m X V M t ∧ MetAt wr q M ∧ G9 wr P n m ∧ Below w.heap.size w wr ∧ q + 1 ≤ wr.heap.size) (fun v _ _ => match v with | .slice _ k _ => 8 - k | _ => 0)
          case atStart => exact ⟨[], _, t0, World.ownsRow_nil _ _ _ _, rfl, WalkOk.init HX0.out ht0, HA.out, HG.out, HB.out, hS⟩
          case round =>
            clear HA HG HB HX0 hS ht0
            obtain ⟨V, M, t, hown, rfl, hwk, hA, hG, hB, hS⟩ := hrel
            have HO := hide hown
            have HW := hide hwk
            have HA := hide hA
            have HG := hide hG
            have HB := hide hB
            have ht := hwk.t8
            have c1 := hA.c t ht
            have f1 := hA.f t
            by_cases hm : M t < 0
            · obtain ⟨ao, cp, rfl, _⟩ := owns_form hown
              have hl := hwk.len' hm
              clear hown hwk hA hG hB
              go_upto_region 17 with fail
              obtain ⟨W5, hW5⟩ : ∃ W5, W5 = wr.setCell ⟨q, t, none⟩ (.int .i64 (V.length : Int)) := ⟨_, rfl⟩
              have HO5 : Hid (W5.ownsRow (q + 1) 3 1 (.slice ao V.length cp) V.length (vals V)) := by rw [hW5]; exact owns_set HO.out (by omega)
              have HA5 : Hid (MetAt W5 q (fun x => if x = t then (V.length : Int) else M x)) := by rw [hW5]; exact HA.out.set
              have HG5 : Hid (G9 W5 P n m) := by rw [hW5]; exact HG.out.other (by omega)
              have HB5 : Hid (Below w.heap.size w W5) := by rw [hW5]; exact HB.out.setCell (by simp; omega) _
              have hS5 : q + 1 ≤ W5.heap.size := by rw [hW5]; simpa using hS
              rw [← hW5]
              clear hW5 HO HA HG HB c1 f1
              go_wp2_with (at_builtin; refine wpList_append_own _ rfl _ _ 34 rfl (q + 1) 3 i0 (.int .i64 0) 1 8 Try.underlying34 hi hz0 hz1 hz2 rfl (by decide) (.slice ao V.length cp) V.length (vals V) rfl (HO5.out.alloc _) ⟨W5.heap.size, 0, none⟩ 1 1 [.int .i64 t] rfl rfl (fun j u hj => by (match j, hj with | 0, hj => simp at hj; subst hj; simp [Addr.add])) (fun u hu => by simp at hu; subst hu; rfl) (by unfold maxLen; omega) (by omega) (by simp; omega) ?_; intro v6 w6 hown6 hgrow6 _; have HR := hide (after_append HO5.out HG5.out HA5.out HB5.out hPq hwq hS5 hgrow6); have HO6 := hide hown6; clear hown6 hgrow6; have c2 := HR.out.1.cs t ht; have hx := u8_and_nat (m t) X (HM.out t) hXlt; have hx0 := HX.out t HW.out.tX)
              refine (lowest_any _ (m t &&& X) (Nat.lt_of_le_of_lt Nat.and_le_right hXlt) hx0).mono ?_
              rintro e w7 ⟨u, rfl, hu, hxu, rfl⟩
              have HXU := hide hxu
              clear hxu c2 hx
              go_wp2
              go_roundw
              case rel =>
                refine ⟨V ++ [t], _, u, ?_, rfl, HW.out.go hm hu HXU.out, HR.out.2.1, HR.out.1, HR.out.2.2.1, HR.out.2.2.2⟩
                have := HO6.out
                rw [show (V ++ [t]).length = V.length + 1 by simp, show vals (V ++ [t]) = vals V ++ [.int .i64 t] by simp [vals]]
                exact this
              case measure =>
                obtain ⟨ao', cp', e6, _⟩ := owns_form HO6.out
                rw [e6]
                simp; omega
            · obtain ⟨s, hs1, hs2⟩ := hwk.at hm
              have hsl : s < V.length := by
                rcases Nat.lt_or_ge s V.length with z | z
                · exact z
                · rw [List.getElem?_eq_none z] at hs2; cases hs2
              obtain ⟨g, cp, rfl, hg1, hg2, hg3⟩ := owns_some hown (by omega)
              rw [hs1] at c1
              have HG3 := hide hg3
              have HS2 := hide hs2
              have hl := hwk.len
              clear hown hwk hA hG hB hs1 hs2 hg3 hm f1
              go_wp2
              refine bodyPost_ret (v := .tuple #[.slice (some ⟨g, s, none⟩) (V.length - s) (cp - s), .int .i64 67]) (by simp [results, Try.results32, go_sem]) rfl ⟨_, by rw [HC.out], HB.out, fun h => absurd HC.out h, fun _ => ⟨h8, by rw [← HE.out]; exact HNB.out, g, s, V.length - s, cp - s, _, rfl, by omega, by rw [← HE.out, ← (show stuckP n (needM n L) = stuckP n m by rw [HE.out]), ← HXV.out]; exact HW.out.cyc HS2.out, fun j hj => ?_⟩⟩
              refine HG3.out (s + j) _ ?_
              rw [vals, List.getElem?_map, List.getD_eq_getElem?_getD, List.getElem?_eq_getElem (by omega)]
              rfl
  · have HC : Hid (ordCode n L = bCode n L) := ordCode_bad hz
    have HZ0 := hide hz
    go_wp2
    refine bodyPost_ret (v := .tuple #[.slice none 0 0, .int .i64 (bCode n L)]) (by simp [results, Try.results32, go_sem]) rfl ⟨_, by rw [HC.out], HB2.out, fun _ => rfl, fun h => ?_⟩
    rw [HC.out] at h; exact absurd h bCode_ne
end Go.Proofs.Qxb6500784a
