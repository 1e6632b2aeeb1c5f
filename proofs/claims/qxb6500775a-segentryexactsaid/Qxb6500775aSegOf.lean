import Derived.Test.Qxb6500775aKeep
namespace Go.Proofs.Qxb6500775a
open Go.RowKit

/-- What a segment's numbers are. -/
def IsSeg (w : World) (v : Value) (al len cr st en : Int) : Prop :=
  ∃ s1 a1 n1 c1 s2 a2 n2 c2 s3 a3 n3 c3 s4 a4 n4 c4 s5 a5 n5 c5, v = .agg #[.bool s1, .slice a1 n1 c1, .bool s2, .slice a2 n2 c2, .bool s3, .slice a3 n3 c3, .bool s4, .slice a4 n4 c4, .bool s5, .slice a5 n5 c5] ∧
    IsI 8 w s1 a1 n1 c1 al ∧ IsI 8 w s2 a2 n2 c2 len ∧ IsI 8 w s3 a3 n3 c3 cr ∧ IsI 8 w s4 a4 n4 c4 st ∧ IsI 8 w s5 a5 n5 c5 en
/-- The result's variable, untouched. -/
def Seg0 (w : World) (p : Nat) : Prop := ∀ j : Nat, w.cell? ⟨p, j, none⟩ = (#[.bool false, .slice none 0 0, .bool false, .slice none 0 0, .bool false, .slice none 0 0, .bool false, .slice none 0 0, .bool false, .slice none 0 0] : Array Value)[j]? ∧ w.frozen? ⟨p, j, none⟩ = false
theorem Seg0.below {w w' : World} {p : Nat} (h : Seg0 w p) (hp : p < w.heap.size) (hb : Below w.heap.size w w') : Seg0 w' p := fun j => ⟨(bat hb j hp).trans (h j).1, (batf hb j hp).trans (h j).2⟩
theorem cellSet10 {w : World} {p b o : Nat} {v u0 u1 u2 u3 u4 u5 u6 u7 u8 u9 : Value} (h : w.cell? ⟨b, o, none⟩ = some v) (hne : ¬ p = b) : ((((((((((w.setCell ⟨p, 0, none⟩ u0).setCell ⟨p, 1, none⟩ u1).setCell ⟨p, 2, none⟩ u2).setCell ⟨p, 3, none⟩ u3).setCell ⟨p, 4, none⟩ u4).setCell ⟨p, 5, none⟩ u5).setCell ⟨p, 6, none⟩ u6).setCell ⟨p, 7, none⟩ u7).setCell ⟨p, 8, none⟩ u8).setCell ⟨p, 9, none⟩ u9).cell? ⟨b, o, none⟩ = some v := by
  have hn : ∀ k, (⟨p, k, none⟩ : Addr) ≠ ⟨b, o, none⟩ := fun k e => hne (by injection e)
  iterate 10 rw [World.cell?_setCell_other _ _ _ _ (hn _)]
  exact h
/-- Block p holds no digit. -/
def NoDig (w : World) (p : Nat) : Prop := ∀ (j : Nat) (x : Int), w.cell? ⟨p, j, none⟩ ≠ some (.int .u32 x)
theorem NoDig.set {w : World} {p : Nat} (h : NoDig w p) (k : Nat) {v : Value} (hv : ∀ x, v ≠ .int .u32 x) : NoDig (w.setCell ⟨p, k, none⟩ v) p := by
  intro j x e
  by_cases hk : k = j
  · subst hk
    cases hc : w.cell? ⟨p, k, none⟩ with
    | none =>
      have : (w.setCell ⟨p, k, none⟩ v).cell? ⟨p, k, none⟩ = none := by
        unfold World.cell? World.setCell at *
        simp only [Array.getElem?_modify, if_true] at *
        cases hb : w.heap[p]? with
        | none => simp
        | some o =>
          cases o <;> simp_all
      rw [this] at e; cases e
    | some u =>
      rw [World.cell?_setCell_same _ _ _ hc] at e
      exact hv x (Option.some.inj e)
  · rw [World.cell?_setCell_other _ _ _ _ (by simp <;> omega)] at e
    exact h j x e
theorem IsI.away {N : Nat} {w : World} {neg : Bool} {a : Option Addr} {n cap p k : Nat} {z : Int} {v : Value} (h : IsI N w neg a n cap z) (hp : NoDig w p) : IsI N (w.setCell ⟨p, k, none⟩ v) neg a n cap z := by
  obtain ⟨D, h1, h2⟩ := h.digits
  refine ⟨h.cap, h.len, h.sign, D, ?_, h2⟩
  intro i hi
  obtain ⟨b, off, rfl, hc, hd⟩ := h1 i hi
  refine ⟨b, off, rfl, ?_, hd⟩
  rw [World.cell?_setCell_other]
  · exact hc
  · intro e
    injection e with e1 e2
    subst e1
    exact hp _ _ hc
theorem Seg0.noDig {w : World} {p : Nat} (h : Seg0 w p) : NoDig w p := by
  intro j x e
  rw [(h j).1] at e
  rcases (by omega : j < 10 ∨ 10 ≤ j) with hj | hj
  · rcases (by omega : j = 0 ∨ j = 1 ∨ j = 2 ∨ j = 3 ∨ j = 4 ∨ j = 5 ∨ j = 6 ∨ j = 7 ∨ j = 8 ∨ j = 9) with h | h | h | h | h | h | h | h | h | h <;> subst h <;> simp at e
  · rw [Array.getElem?_eq_none (by simpa using hj)] at e; cases e
/-- A number stays behind the ten stores of a segment's result. -/
theorem IsI.set10 {N : Nat} {w : World} {neg : Bool} {a : Option Addr} {n cap p : Nat} {z : Int} {b0 b2 b4 b6 b8 : Bool} {x1 x3 x5 x7 x9 : Option Addr} {l1 m1 l3 m3 l5 m5 l7 m7 l9 m9 : Nat} (h : IsI N w neg a n cap z) (hp : NoDig w p) :
    IsI N ((((((((((w.setCell ⟨p, 0, none⟩ (.bool b0)).setCell ⟨p, 1, none⟩ (.slice x1 l1 m1)).setCell ⟨p, 2, none⟩ (.bool b2)).setCell ⟨p, 3, none⟩ (.slice x3 l3 m3)).setCell ⟨p, 4, none⟩ (.bool b4)).setCell ⟨p, 5, none⟩ (.slice x5 l5 m5)).setCell ⟨p, 6, none⟩ (.bool b6)).setCell ⟨p, 7, none⟩ (.slice x7 l7 m7)).setCell ⟨p, 8, none⟩ (.bool b8)).setCell ⟨p, 9, none⟩ (.slice x9 l9 m9)) neg a n cap z := by
  have n0 := hp.set 0 (v := .bool b0) (by simp)
  have n1 := n0.set 1 (v := .slice x1 l1 m1) (by simp)
  have n2 := n1.set 2 (v := .bool b2) (by simp)
  have n3 := n2.set 3 (v := .slice x3 l3 m3) (by simp)
  have n4 := n3.set 4 (v := .bool b4) (by simp)
  have n5 := n4.set 5 (v := .slice x5 l5 m5) (by simp)
  have n6 := n5.set 6 (v := .bool b6) (by simp)
  have n7 := n6.set 7 (v := .slice x7 l7 m7) (by simp)
  have n8 := n7.set 8 (v := .bool b8) (by simp)
  exact (((((((((h.away hp).away n0).away n1).away n2).away n3).away n4).away n5).away n6).away n7).away n8
theorem Seg0.all {w : World} {p : Nat} (h : Seg0 w p) : w.cell? ⟨p, 0, none⟩ = some (.bool false) ∧ w.cell? ⟨p, 1, none⟩ = some (.slice none 0 0) ∧ w.cell? ⟨p, 2, none⟩ = some (.bool false) ∧ w.cell? ⟨p, 3, none⟩ = some (.slice none 0 0) ∧ w.cell? ⟨p, 4, none⟩ = some (.bool false) ∧ w.cell? ⟨p, 5, none⟩ = some (.slice none 0 0) ∧ w.cell? ⟨p, 6, none⟩ = some (.bool false) ∧ w.cell? ⟨p, 7, none⟩ = some (.slice none 0 0) ∧ w.cell? ⟨p, 8, none⟩ = some (.bool false) ∧ w.cell? ⟨p, 9, none⟩ = some (.slice none 0 0) ∧ w.frozen? ⟨p, 0, none⟩ = false ∧ w.frozen? ⟨p, 1, none⟩ = false ∧ w.frozen? ⟨p, 2, none⟩ = false ∧ w.frozen? ⟨p, 3, none⟩ = false ∧ w.frozen? ⟨p, 4, none⟩ = false ∧ w.frozen? ⟨p, 5, none⟩ = false ∧ w.frozen? ⟨p, 6, none⟩ = false ∧ w.frozen? ⟨p, 7, none⟩ = false ∧ w.frozen? ⟨p, 8, none⟩ = false ∧ w.frozen? ⟨p, 9, none⟩ = false :=
  ⟨(h 0).1, (h 1).1, (h 2).1, (h 3).1, (h 4).1, (h 5).1, (h 6).1, (h 7).1, (h 8).1, (h 9).1, (h 0).2, (h 1).2, (h 2).2, (h 3).2, (h 4).2, (h 5).2, (h 6).2, (h 7).2, (h 8).2, (h 9).2⟩

set_option maxRecDepth 100000 in
set_option maxHeartbeats 8000000 in
theorem SegOf_any (w : World) (kd A B C D E F Gg : Int) (hA : -9223372036854775808 ≤ A ∧ A < 9223372036854775808) (hB : -9223372036854775808 ≤ B ∧ B < 9223372036854775808) (hC : -9223372036854775808 ≤ C ∧ C < 9223372036854775808) (hD : -9223372036854775808 ≤ D ∧ D < 9223372036854775808) (hE : -9223372036854775808 ≤ E ∧ E < 9223372036854775808) (hF : -9223372036854775808 ≤ F ∧ F < 9223372036854775808) :
    Calls Try.prog 32 #[.agg #[.int .i64 kd, .int .i64 A, .int .i64 B, .int .i64 C, .int .i64 D, .int .i64 E, .int .i64 F, .int .i64 Gg]] w fun e w' => ∃ v, e = .returned v ∧ IsSeg w' v ((E - A) * (C - A) + (F - B) * (D - B)) ((C - A) * (C - A) + (D - B) * (D - B)) ((C - A) * (F - B) - (D - B) * (E - A)) ((A - E) * (A - E) + (B - F) * (B - F)) ((C - E) * (C - E) + (D - F) * (D - F)) ∧ Below w.heap.size w w' := by
  go_enter Try.func32, Try.ntmps32
  go_upto_region 1 with fail
  obtain ⟨W, hW⟩ : ∃ W, W = (w.alloc (.cells #[.int .i64 kd, .int .i64 A, .int .i64 B, .int .i64 C, .int .i64 D, .int .i64 E, .int .i64 F, .int .i64 Gg] 30)).alloc (.cells #[.bool false, .slice none 0 0, .bool false, .slice none 0 0, .bool false, .slice none 0 0, .bool false, .slice none 0 0, .bool false, .slice none 0 0] 53) := ⟨_, rfl⟩
  have op1 : W.cell? ⟨w.heap.size, 1, none⟩ = some (.int .i64 A) := by rw [hW]; simp [go_sem]
  have op2 : W.cell? ⟨w.heap.size, 2, none⟩ = some (.int .i64 B) := by rw [hW]; simp [go_sem]
  have op3 : W.cell? ⟨w.heap.size, 3, none⟩ = some (.int .i64 C) := by rw [hW]; simp [go_sem]
  have op4 : W.cell? ⟨w.heap.size, 4, none⟩ = some (.int .i64 D) := by rw [hW]; simp [go_sem]
  have op5 : W.cell? ⟨w.heap.size, 5, none⟩ = some (.int .i64 E) := by rw [hW]; simp [go_sem]
  have op6 : W.cell? ⟨w.heap.size, 6, none⟩ = some (.int .i64 F) := by rw [hW]; simp [go_sem]
  have HWb : Hid (Below w.heap.size w W) := by rw [hW]; exact ((Below.refl _ _).alloc (Nat.le_refl _) _).alloc (by simp) _
  have hWs : w.heap.size + 1 < W.heap.size := by rw [hW]; simp
  have HWr : Hid (Seg0 W (w.heap.size + 1)) := fun j => by rw [hW]; simp [go_sem]
  rw [← hW]
  clear hW
  have S := And.intro op3 op1
  have HB := hide (Below.refl W.heap.size W)
  have ne0 := blkNe S.1
  go_cut [3] (fun s wx => ∃ p, s = .pointer (some ⟨p, 0, none⟩) ∧ W.heap.size ≤ p ∧ VarI 3 wx p (C - A) ∧ Below W.heap.size W wx)
  case first =>
    have tok1 : True := trivial
    have tok2 : True := trivial
    have tok3 : True := trivial
    go_region_held3 (fun w' => w'.cell? ⟨w.heap.size, 3, none⟩ = some (.int .i64 C) ∧ w'.cell? ⟨w.heap.size, 1, none⟩ = some (.int .i64 A)) (first | (with_reducible exact S) | (with_reducible exact (by simpa only [World.cell?_drew] using S)) | (simp [*, go_sem, World.cell?_alloc_some]; done))
      (first
        | (go_at_call 15; have _t := tok1; clear tok1; refine (Of_any _ (C) (by omega) (by omega)).mono ?_; rintro e w1 ⟨s1, a1, n1, c1, rfl, i1, b1⟩; (try replace b1 := of_drew b1); (try (have bf0 := frozKeep b1 bx0 bf0; have bf1 := frozKeep b1 bx1 bf1; have bx0 := cellKeep b1 bx0; have bx1 := cellKeep b1 bx1)); (try (have bx0 := cellKeep b1 (cellNew0 W); have bx1 := cellKeep b1 (cellNew1 W); have bf0 := frozKeep b1 (cellNew0 W) (frozNew W 0); have bf1 := frozKeep b1 (cellNew1 W) (frozNew W 1); have bp := HB.out.size)); (first | have S := (And.intro (cellKeep b1 S.1) (cellKeep b1 S.2)) | have S := (And.intro (cellKeep b1 (cellAl _ S.1)) (cellKeep b1 (cellAl _ S.2)))); have ne1_0 := blkNe S.1; (first | have HB := hide (lecB HB.out b1) | have HB := hide (lecB (belAl HB.out _) b1)); clear b1; have I1 := hide i1; clear i1)
        | (go_at_call 15; have _t := tok2; clear tok2; refine (Of_any _ (A) (by omega) (by omega)).mono ?_; rintro e w2 ⟨s2, a2, n2, c2, rfl, i2, b2⟩; (try replace b2 := of_drew b2); (try (have bf0 := frozKeep b2 bx0 bf0; have bf1 := frozKeep b2 bx1 bf1; have bx0 := cellKeep b2 bx0; have bx1 := cellKeep b2 bx1)); (try (have bx0 := cellKeep b2 (cellNew0 w1); have bx1 := cellKeep b2 (cellNew1 w1); have bf0 := frozKeep b2 (cellNew0 w1) (frozNew w1 0); have bf1 := frozKeep b2 (cellNew1 w1) (frozNew w1 1); have bp := HB.out.size)); (first | have I1 := hide (I1.out.below b2) | have I1 := hide ((I1.out.al _).below b2)); (first | have S := (And.intro (cellKeep b2 S.1) (cellKeep b2 S.2)) | have S := (And.intro (cellKeep b2 (cellAl _ S.1)) (cellKeep b2 (cellAl _ S.2)))); have ne2_0 := blkNe S.1; (first | have HB := hide (lecB HB.out b2) | have HB := hide (lecB (belAl HB.out _) b2)); clear b2; have I2 := hide i2; clear i2)
        | (go_at_call 60; have _t := tok3; clear tok3; refine (Sub_any _ s1 s2 a1 a2 n1 n2 c1 c2 2 2 2 (C) (A) (by omega) (by omega) (by omega) (by first | exact I1.out | exact I1.out.al _) (by first | exact I2.out | exact I2.out.al _)).mono ?_; rintro e w3 ⟨s3, a3, n3, c3, rfl, i3, b3⟩; (try replace b3 := of_drew b3); (try (have bf0 := frozKeep b3 bx0 bf0; have bf1 := frozKeep b3 bx1 bf1; have bx0 := cellKeep b3 bx0; have bx1 := cellKeep b3 bx1)); (try (have bx0 := cellKeep b3 (cellNew0 w2); have bx1 := cellKeep b3 (cellNew1 w2); have bf0 := frozKeep b3 (cellNew0 w2) (frozNew w2 0); have bf1 := frozKeep b3 (cellNew1 w2) (frozNew w2 1); have bp := HB.out.size)); (first | have I1 := hide (I1.out.below b3) | have I1 := hide ((I1.out.al _).below b3)); (first | have I2 := hide (I2.out.below b3) | have I2 := hide ((I2.out.al _).below b3)); (first | have S := (And.intro (cellKeep b3 S.1) (cellKeep b3 S.2)) | have S := (And.intro (cellKeep b3 (cellAl _ S.1)) (cellKeep b3 (cellAl _ S.2)))); have ne3_0 := blkNe S.1; (first | have HB := hide (lecB HB.out b3) | have HB := hide (lecB (belAl HB.out _) b3)); clear b3; have I3 := hide i3; clear i3))
    all_goals
      go_wp2_with fail
      go_meet
      first | exact ⟨_, rfl, HB.out.size, varNew I3.out, belAl HB.out _⟩ | exact ⟨_, rfl, bp, varSet I3.out bx0 bx1, belSet2 HB.out bp⟩
  obtain ⟨p1, rfl, hp1, hv, hb⟩ := hcut
  have ne1 : ¬ p1 = w.heap.size + 1 := by omega
  have en1 : ¬ w.heap.size + 1 = p1 := by omega
  have HV1 := hide hv
  replace op1 := cellKeep hb op1
  replace op2 := cellKeep hb op2
  replace op3 := cellKeep hb op3
  replace op4 := cellKeep hb op4
  replace op5 := cellKeep hb op5
  replace op6 := cellKeep hb op6
  replace HWb := hide (HWb.out.trans (hb.mono HWb.out.size))
  replace HWr := hide (HWr.out.below hWs hb)
  replace hWs : w.heap.size + 1 < wc.heap.size := Nat.lt_of_lt_of_le hWs hb.size
  clear S HB ne0 hb hv hp1
  clear W
  obtain ⟨W, hW⟩ : ∃ W', W' = wc := ⟨_, rfl⟩
  subst hW
  go_upto_region 2 with fail
  have S := And.intro op4 op2
  have HB := hide (Below.refl W.heap.size W)
  have ne0 := blkNe S.1
  go_cut [4] (fun s wx => ∃ p, s = .pointer (some ⟨p, 0, none⟩) ∧ W.heap.size ≤ p ∧ VarI 3 wx p (D - B) ∧ Below W.heap.size W wx)
  case first =>
    have tok1 : True := trivial
    have tok2 : True := trivial
    have tok3 : True := trivial
    go_region_held3 (fun w' => w'.cell? ⟨w.heap.size, 4, none⟩ = some (.int .i64 D) ∧ w'.cell? ⟨w.heap.size, 2, none⟩ = some (.int .i64 B)) (first | (with_reducible exact S) | (with_reducible exact (by simpa only [World.cell?_drew] using S)) | (simp [*, go_sem, World.cell?_alloc_some]; done))
      (first
        | (go_at_call 15; have _t := tok1; clear tok1; refine (Of_any _ (D) (by omega) (by omega)).mono ?_; rintro e w1 ⟨s1, a1, n1, c1, rfl, i1, b1⟩; (try replace b1 := of_drew b1); (try (have bf0 := frozKeep b1 bx0 bf0; have bf1 := frozKeep b1 bx1 bf1; have bx0 := cellKeep b1 bx0; have bx1 := cellKeep b1 bx1)); (try (have bx0 := cellKeep b1 (cellNew0 W); have bx1 := cellKeep b1 (cellNew1 W); have bf0 := frozKeep b1 (cellNew0 W) (frozNew W 0); have bf1 := frozKeep b1 (cellNew1 W) (frozNew W 1); have bp := HB.out.size)); (first | have S := (And.intro (cellKeep b1 S.1) (cellKeep b1 S.2)) | have S := (And.intro (cellKeep b1 (cellAl _ S.1)) (cellKeep b1 (cellAl _ S.2)))); have ne1_0 := blkNe S.1; (first | have HB := hide (lecB HB.out b1) | have HB := hide (lecB (belAl HB.out _) b1)); clear b1; have I1 := hide i1; clear i1)
        | (go_at_call 15; have _t := tok2; clear tok2; refine (Of_any _ (B) (by omega) (by omega)).mono ?_; rintro e w2 ⟨s2, a2, n2, c2, rfl, i2, b2⟩; (try replace b2 := of_drew b2); (try (have bf0 := frozKeep b2 bx0 bf0; have bf1 := frozKeep b2 bx1 bf1; have bx0 := cellKeep b2 bx0; have bx1 := cellKeep b2 bx1)); (try (have bx0 := cellKeep b2 (cellNew0 w1); have bx1 := cellKeep b2 (cellNew1 w1); have bf0 := frozKeep b2 (cellNew0 w1) (frozNew w1 0); have bf1 := frozKeep b2 (cellNew1 w1) (frozNew w1 1); have bp := HB.out.size)); (first | have I1 := hide (I1.out.below b2) | have I1 := hide ((I1.out.al _).below b2)); (first | have S := (And.intro (cellKeep b2 S.1) (cellKeep b2 S.2)) | have S := (And.intro (cellKeep b2 (cellAl _ S.1)) (cellKeep b2 (cellAl _ S.2)))); have ne2_0 := blkNe S.1; (first | have HB := hide (lecB HB.out b2) | have HB := hide (lecB (belAl HB.out _) b2)); clear b2; have I2 := hide i2; clear i2)
        | (go_at_call 60; have _t := tok3; clear tok3; refine (Sub_any _ s1 s2 a1 a2 n1 n2 c1 c2 2 2 2 (D) (B) (by omega) (by omega) (by omega) (by first | exact I1.out | exact I1.out.al _) (by first | exact I2.out | exact I2.out.al _)).mono ?_; rintro e w3 ⟨s3, a3, n3, c3, rfl, i3, b3⟩; (try replace b3 := of_drew b3); (try (have bf0 := frozKeep b3 bx0 bf0; have bf1 := frozKeep b3 bx1 bf1; have bx0 := cellKeep b3 bx0; have bx1 := cellKeep b3 bx1)); (try (have bx0 := cellKeep b3 (cellNew0 w2); have bx1 := cellKeep b3 (cellNew1 w2); have bf0 := frozKeep b3 (cellNew0 w2) (frozNew w2 0); have bf1 := frozKeep b3 (cellNew1 w2) (frozNew w2 1); have bp := HB.out.size)); (first | have I1 := hide (I1.out.below b3) | have I1 := hide ((I1.out.al _).below b3)); (first | have I2 := hide (I2.out.below b3) | have I2 := hide ((I2.out.al _).below b3)); (first | have S := (And.intro (cellKeep b3 S.1) (cellKeep b3 S.2)) | have S := (And.intro (cellKeep b3 (cellAl _ S.1)) (cellKeep b3 (cellAl _ S.2)))); have ne3_0 := blkNe S.1; (first | have HB := hide (lecB HB.out b3) | have HB := hide (lecB (belAl HB.out _) b3)); clear b3; have I3 := hide i3; clear i3))
    all_goals
      go_wp2_with fail
      go_meet
      first | exact ⟨_, rfl, HB.out.size, varNew I3.out, belAl HB.out _⟩ | exact ⟨_, rfl, bp, varSet I3.out bx0 bx1, belSet2 HB.out bp⟩
  obtain ⟨p2, rfl, hp2, hv, hb⟩ := hcut
  have ne2 : ¬ p2 = w.heap.size + 1 := by omega
  have en2 : ¬ w.heap.size + 1 = p2 := by omega
  have HV2 := hide hv
  replace HV1 := hide (HV1.out.below hb)
  replace op1 := cellKeep hb op1
  replace op2 := cellKeep hb op2
  replace op3 := cellKeep hb op3
  replace op4 := cellKeep hb op4
  replace op5 := cellKeep hb op5
  replace op6 := cellKeep hb op6
  replace HWb := hide (HWb.out.trans (hb.mono HWb.out.size))
  replace HWr := hide (HWr.out.below hWs hb)
  replace hWs : w.heap.size + 1 < wc.heap.size := Nat.lt_of_lt_of_le hWs hb.size
  clear S HB ne0 hb hv hp2
  clear W
  obtain ⟨W, hW⟩ : ∃ W', W' = wc := ⟨_, rfl⟩
  subst hW
  go_upto_region 3 with fail
  have S := And.intro op5 op1
  have HB := hide (Below.refl W.heap.size W)
  have ne0 := blkNe S.1
  go_cut [5] (fun s wx => ∃ p, s = .pointer (some ⟨p, 0, none⟩) ∧ W.heap.size ≤ p ∧ VarI 3 wx p (E - A) ∧ Below W.heap.size W wx)
  case first =>
    have tok1 : True := trivial
    have tok2 : True := trivial
    have tok3 : True := trivial
    go_region_held3 (fun w' => w'.cell? ⟨w.heap.size, 5, none⟩ = some (.int .i64 E) ∧ w'.cell? ⟨w.heap.size, 1, none⟩ = some (.int .i64 A)) (first | (with_reducible exact S) | (with_reducible exact (by simpa only [World.cell?_drew] using S)) | (simp [*, go_sem, World.cell?_alloc_some]; done))
      (first
        | (go_at_call 15; have _t := tok1; clear tok1; refine (Of_any _ (E) (by omega) (by omega)).mono ?_; rintro e w1 ⟨s1, a1, n1, c1, rfl, i1, b1⟩; (try replace b1 := of_drew b1); (try (have bf0 := frozKeep b1 bx0 bf0; have bf1 := frozKeep b1 bx1 bf1; have bx0 := cellKeep b1 bx0; have bx1 := cellKeep b1 bx1)); (try (have bx0 := cellKeep b1 (cellNew0 W); have bx1 := cellKeep b1 (cellNew1 W); have bf0 := frozKeep b1 (cellNew0 W) (frozNew W 0); have bf1 := frozKeep b1 (cellNew1 W) (frozNew W 1); have bp := HB.out.size)); (first | have S := (And.intro (cellKeep b1 S.1) (cellKeep b1 S.2)) | have S := (And.intro (cellKeep b1 (cellAl _ S.1)) (cellKeep b1 (cellAl _ S.2)))); have ne1_0 := blkNe S.1; (first | have HB := hide (lecB HB.out b1) | have HB := hide (lecB (belAl HB.out _) b1)); clear b1; have I1 := hide i1; clear i1)
        | (go_at_call 15; have _t := tok2; clear tok2; refine (Of_any _ (A) (by omega) (by omega)).mono ?_; rintro e w2 ⟨s2, a2, n2, c2, rfl, i2, b2⟩; (try replace b2 := of_drew b2); (try (have bf0 := frozKeep b2 bx0 bf0; have bf1 := frozKeep b2 bx1 bf1; have bx0 := cellKeep b2 bx0; have bx1 := cellKeep b2 bx1)); (try (have bx0 := cellKeep b2 (cellNew0 w1); have bx1 := cellKeep b2 (cellNew1 w1); have bf0 := frozKeep b2 (cellNew0 w1) (frozNew w1 0); have bf1 := frozKeep b2 (cellNew1 w1) (frozNew w1 1); have bp := HB.out.size)); (first | have I1 := hide (I1.out.below b2) | have I1 := hide ((I1.out.al _).below b2)); (first | have S := (And.intro (cellKeep b2 S.1) (cellKeep b2 S.2)) | have S := (And.intro (cellKeep b2 (cellAl _ S.1)) (cellKeep b2 (cellAl _ S.2)))); have ne2_0 := blkNe S.1; (first | have HB := hide (lecB HB.out b2) | have HB := hide (lecB (belAl HB.out _) b2)); clear b2; have I2 := hide i2; clear i2)
        | (go_at_call 60; have _t := tok3; clear tok3; refine (Sub_any _ s1 s2 a1 a2 n1 n2 c1 c2 2 2 2 (E) (A) (by omega) (by omega) (by omega) (by first | exact I1.out | exact I1.out.al _) (by first | exact I2.out | exact I2.out.al _)).mono ?_; rintro e w3 ⟨s3, a3, n3, c3, rfl, i3, b3⟩; (try replace b3 := of_drew b3); (try (have bf0 := frozKeep b3 bx0 bf0; have bf1 := frozKeep b3 bx1 bf1; have bx0 := cellKeep b3 bx0; have bx1 := cellKeep b3 bx1)); (try (have bx0 := cellKeep b3 (cellNew0 w2); have bx1 := cellKeep b3 (cellNew1 w2); have bf0 := frozKeep b3 (cellNew0 w2) (frozNew w2 0); have bf1 := frozKeep b3 (cellNew1 w2) (frozNew w2 1); have bp := HB.out.size)); (first | have I1 := hide (I1.out.below b3) | have I1 := hide ((I1.out.al _).below b3)); (first | have I2 := hide (I2.out.below b3) | have I2 := hide ((I2.out.al _).below b3)); (first | have S := (And.intro (cellKeep b3 S.1) (cellKeep b3 S.2)) | have S := (And.intro (cellKeep b3 (cellAl _ S.1)) (cellKeep b3 (cellAl _ S.2)))); have ne3_0 := blkNe S.1; (first | have HB := hide (lecB HB.out b3) | have HB := hide (lecB (belAl HB.out _) b3)); clear b3; have I3 := hide i3; clear i3))
    all_goals
      go_wp2_with fail
      go_meet
      first | exact ⟨_, rfl, HB.out.size, varNew I3.out, belAl HB.out _⟩ | exact ⟨_, rfl, bp, varSet I3.out bx0 bx1, belSet2 HB.out bp⟩
  obtain ⟨p3, rfl, hp3, hv, hb⟩ := hcut
  have ne3 : ¬ p3 = w.heap.size + 1 := by omega
  have en3 : ¬ w.heap.size + 1 = p3 := by omega
  have HV3 := hide hv
  replace HV1 := hide (HV1.out.below hb)
  replace HV2 := hide (HV2.out.below hb)
  replace op1 := cellKeep hb op1
  replace op2 := cellKeep hb op2
  replace op3 := cellKeep hb op3
  replace op4 := cellKeep hb op4
  replace op5 := cellKeep hb op5
  replace op6 := cellKeep hb op6
  replace HWb := hide (HWb.out.trans (hb.mono HWb.out.size))
  replace HWr := hide (HWr.out.below hWs hb)
  replace hWs : w.heap.size + 1 < wc.heap.size := Nat.lt_of_lt_of_le hWs hb.size
  clear S HB ne0 hb hv hp3
  clear W
  obtain ⟨W, hW⟩ : ∃ W', W' = wc := ⟨_, rfl⟩
  subst hW
  go_upto_region 4 with fail
  have S := And.intro op6 op2
  have HB := hide (Below.refl W.heap.size W)
  have ne0 := blkNe S.1
  go_cut [6] (fun s wx => ∃ p, s = .pointer (some ⟨p, 0, none⟩) ∧ W.heap.size ≤ p ∧ VarI 3 wx p (F - B) ∧ Below W.heap.size W wx)
  case first =>
    have tok1 : True := trivial
    have tok2 : True := trivial
    have tok3 : True := trivial
    go_region_held3 (fun w' => w'.cell? ⟨w.heap.size, 6, none⟩ = some (.int .i64 F) ∧ w'.cell? ⟨w.heap.size, 2, none⟩ = some (.int .i64 B)) (first | (with_reducible exact S) | (with_reducible exact (by simpa only [World.cell?_drew] using S)) | (simp [*, go_sem, World.cell?_alloc_some]; done))
      (first
        | (go_at_call 15; have _t := tok1; clear tok1; refine (Of_any _ (F) (by omega) (by omega)).mono ?_; rintro e w1 ⟨s1, a1, n1, c1, rfl, i1, b1⟩; (try replace b1 := of_drew b1); (try (have bf0 := frozKeep b1 bx0 bf0; have bf1 := frozKeep b1 bx1 bf1; have bx0 := cellKeep b1 bx0; have bx1 := cellKeep b1 bx1)); (try (have bx0 := cellKeep b1 (cellNew0 W); have bx1 := cellKeep b1 (cellNew1 W); have bf0 := frozKeep b1 (cellNew0 W) (frozNew W 0); have bf1 := frozKeep b1 (cellNew1 W) (frozNew W 1); have bp := HB.out.size)); (first | have S := (And.intro (cellKeep b1 S.1) (cellKeep b1 S.2)) | have S := (And.intro (cellKeep b1 (cellAl _ S.1)) (cellKeep b1 (cellAl _ S.2)))); have ne1_0 := blkNe S.1; (first | have HB := hide (lecB HB.out b1) | have HB := hide (lecB (belAl HB.out _) b1)); clear b1; have I1 := hide i1; clear i1)
        | (go_at_call 15; have _t := tok2; clear tok2; refine (Of_any _ (B) (by omega) (by omega)).mono ?_; rintro e w2 ⟨s2, a2, n2, c2, rfl, i2, b2⟩; (try replace b2 := of_drew b2); (try (have bf0 := frozKeep b2 bx0 bf0; have bf1 := frozKeep b2 bx1 bf1; have bx0 := cellKeep b2 bx0; have bx1 := cellKeep b2 bx1)); (try (have bx0 := cellKeep b2 (cellNew0 w1); have bx1 := cellKeep b2 (cellNew1 w1); have bf0 := frozKeep b2 (cellNew0 w1) (frozNew w1 0); have bf1 := frozKeep b2 (cellNew1 w1) (frozNew w1 1); have bp := HB.out.size)); (first | have I1 := hide (I1.out.below b2) | have I1 := hide ((I1.out.al _).below b2)); (first | have S := (And.intro (cellKeep b2 S.1) (cellKeep b2 S.2)) | have S := (And.intro (cellKeep b2 (cellAl _ S.1)) (cellKeep b2 (cellAl _ S.2)))); have ne2_0 := blkNe S.1; (first | have HB := hide (lecB HB.out b2) | have HB := hide (lecB (belAl HB.out _) b2)); clear b2; have I2 := hide i2; clear i2)
        | (go_at_call 60; have _t := tok3; clear tok3; refine (Sub_any _ s1 s2 a1 a2 n1 n2 c1 c2 2 2 2 (F) (B) (by omega) (by omega) (by omega) (by first | exact I1.out | exact I1.out.al _) (by first | exact I2.out | exact I2.out.al _)).mono ?_; rintro e w3 ⟨s3, a3, n3, c3, rfl, i3, b3⟩; (try replace b3 := of_drew b3); (try (have bf0 := frozKeep b3 bx0 bf0; have bf1 := frozKeep b3 bx1 bf1; have bx0 := cellKeep b3 bx0; have bx1 := cellKeep b3 bx1)); (try (have bx0 := cellKeep b3 (cellNew0 w2); have bx1 := cellKeep b3 (cellNew1 w2); have bf0 := frozKeep b3 (cellNew0 w2) (frozNew w2 0); have bf1 := frozKeep b3 (cellNew1 w2) (frozNew w2 1); have bp := HB.out.size)); (first | have I1 := hide (I1.out.below b3) | have I1 := hide ((I1.out.al _).below b3)); (first | have I2 := hide (I2.out.below b3) | have I2 := hide ((I2.out.al _).below b3)); (first | have S := (And.intro (cellKeep b3 S.1) (cellKeep b3 S.2)) | have S := (And.intro (cellKeep b3 (cellAl _ S.1)) (cellKeep b3 (cellAl _ S.2)))); have ne3_0 := blkNe S.1; (first | have HB := hide (lecB HB.out b3) | have HB := hide (lecB (belAl HB.out _) b3)); clear b3; have I3 := hide i3; clear i3))
    all_goals
      go_wp2_with fail
      go_meet
      first | exact ⟨_, rfl, HB.out.size, varNew I3.out, belAl HB.out _⟩ | exact ⟨_, rfl, bp, varSet I3.out bx0 bx1, belSet2 HB.out bp⟩
  obtain ⟨p4, rfl, hp4, hv, hb⟩ := hcut
  have ne4 : ¬ p4 = w.heap.size + 1 := by omega
  have en4 : ¬ w.heap.size + 1 = p4 := by omega
  have HV4 := hide hv
  replace HV1 := hide (HV1.out.below hb)
  replace HV2 := hide (HV2.out.below hb)
  replace HV3 := hide (HV3.out.below hb)
  replace op1 := cellKeep hb op1
  replace op2 := cellKeep hb op2
  replace op3 := cellKeep hb op3
  replace op4 := cellKeep hb op4
  replace op5 := cellKeep hb op5
  replace op6 := cellKeep hb op6
  replace HWb := hide (HWb.out.trans (hb.mono HWb.out.size))
  replace HWr := hide (HWr.out.below hWs hb)
  replace hWs : w.heap.size + 1 < wc.heap.size := Nat.lt_of_lt_of_le hWs hb.size
  clear S HB ne0 hb hv hp4
  clear W
  obtain ⟨W, hW⟩ : ∃ W', W' = wc := ⟨_, rfl⟩
  subst hW
  go_upto_region 5 with fail
  obtain ⟨s1, a1, n1, c1, v10, v11, i1⟩ := HV1.out
  obtain ⟨s2, a2, n2, c2, v20, v21, i2⟩ := HV2.out
  obtain ⟨s3, a3, n3, c3, v30, v31, i3⟩ := HV3.out
  obtain ⟨s4, a4, n4, c4, v40, v41, i4⟩ := HV4.out
  have J1 := hide i1
  have J2 := hide i2
  have J3 := hide i3
  have J4 := hide i4
  have HB := hide (Below.refl W.heap.size W)
  clear i1 i2 i3 i4 HV1 HV2 HV3 HV4
  have qS := (And.intro op1 (And.intro op2 (And.intro op3 (And.intro op4 (And.intro op5 (And.intro op6 (And.intro v10 (And.intro v11 (And.intro v20 (And.intro v21 (And.intro v30 (And.intro v31 (And.intro v40 v41)))))))))))))
  clear op1 op2 op3 op4 op5 op6 v10 v11 v20 v21 v30 v31 v40 v41
  have qtok1 : True := trivial
  have qtok2 : True := trivial
  have qtok3 : True := trivial
  have qtok4 : True := trivial
  have qtok5 : True := trivial
  have qtok6 : True := trivial
  have qtok7 : True := trivial
  have qtok8 : True := trivial
  have qtok9 : True := trivial
  have qtok10 : True := trivial
  have qtok11 : True := trivial
  go_region_held3 (fun w' => w'.cell? ⟨w.heap.size, 1, none⟩ = some (.int .i64 A) ∧ w'.cell? ⟨w.heap.size, 2, none⟩ = some (.int .i64 B) ∧ w'.cell? ⟨w.heap.size, 3, none⟩ = some (.int .i64 C) ∧ w'.cell? ⟨w.heap.size, 4, none⟩ = some (.int .i64 D) ∧ w'.cell? ⟨w.heap.size, 5, none⟩ = some (.int .i64 E) ∧ w'.cell? ⟨w.heap.size, 6, none⟩ = some (.int .i64 F) ∧ w'.cell? ⟨p1, 0, none⟩ = some (.bool s1) ∧ w'.cell? ⟨p1, 1, none⟩ = some (.slice a1 n1 c1) ∧ w'.cell? ⟨p2, 0, none⟩ = some (.bool s2) ∧ w'.cell? ⟨p2, 1, none⟩ = some (.slice a2 n2 c2) ∧ w'.cell? ⟨p3, 0, none⟩ = some (.bool s3) ∧ w'.cell? ⟨p3, 1, none⟩ = some (.slice a3 n3 c3) ∧ w'.cell? ⟨p4, 0, none⟩ = some (.bool s4) ∧ w'.cell? ⟨p4, 1, none⟩ = some (.slice a4 n4 c4)) (first | (with_reducible exact qS) | (with_reducible exact (by simpa only [World.cell?_drew] using qS)) | exact (And.intro (cellSet10 qS.1 (by omega)) (And.intro (cellSet10 qS.2.1 (by omega)) (And.intro (cellSet10 qS.2.2.1 (by omega)) (And.intro (cellSet10 qS.2.2.2.1 (by omega)) (And.intro (cellSet10 qS.2.2.2.2.1 (by omega)) (And.intro (cellSet10 qS.2.2.2.2.2.1 (by omega)) (And.intro (cellSet10 qS.2.2.2.2.2.2.1 (by omega)) (And.intro (cellSet10 qS.2.2.2.2.2.2.2.1 (by omega)) (And.intro (cellSet10 qS.2.2.2.2.2.2.2.2.1 (by omega)) (And.intro (cellSet10 qS.2.2.2.2.2.2.2.2.2.1 (by omega)) (And.intro (cellSet10 qS.2.2.2.2.2.2.2.2.2.2.1 (by omega)) (And.intro (cellSet10 qS.2.2.2.2.2.2.2.2.2.2.2.1 (by omega)) (And.intro (cellSet10 qS.2.2.2.2.2.2.2.2.2.2.2.2.1 (by omega)) (cellSet10 qS.2.2.2.2.2.2.2.2.2.2.2.2.2 (by omega))))))))))))))))
    (first
      | (go_at_call 18; have _t := qtok1; clear qtok1; refine (Mul_any _ s3 s1 a3 a1 n3 n1 c3 c1 3 3 (E - A) (C - A) (by omega) J3.out.dr J1.out.dr).mono ?_; rintro e qw1 ⟨qs1, qa1, qn1, qc1, rfl, qi1, qb1⟩; (try replace qb1 := of_drew qb1); have J1 := hide (J1.out.below qb1); have J2 := hide (J2.out.below qb1); have J3 := hide (J3.out.below qb1); have J4 := hide (J4.out.below qb1); have qS := (And.intro (cellKeep qb1 qS.1) (And.intro (cellKeep qb1 qS.2.1) (And.intro (cellKeep qb1 qS.2.2.1) (And.intro (cellKeep qb1 qS.2.2.2.1) (And.intro (cellKeep qb1 qS.2.2.2.2.1) (And.intro (cellKeep qb1 qS.2.2.2.2.2.1) (And.intro (cellKeep qb1 qS.2.2.2.2.2.2.1) (And.intro (cellKeep qb1 qS.2.2.2.2.2.2.2.1) (And.intro (cellKeep qb1 qS.2.2.2.2.2.2.2.2.1) (And.intro (cellKeep qb1 qS.2.2.2.2.2.2.2.2.2.1) (And.intro (cellKeep qb1 qS.2.2.2.2.2.2.2.2.2.2.1) (And.intro (cellKeep qb1 qS.2.2.2.2.2.2.2.2.2.2.2.1) (And.intro (cellKeep qb1 qS.2.2.2.2.2.2.2.2.2.2.2.2.1) (cellKeep qb1 qS.2.2.2.2.2.2.2.2.2.2.2.2.2)))))))))))))); have HB := hide (lecB HB.out qb1); clear qb1; have qI1 := hide qi1; clear qi1)
      | (go_at_call 18; have _t := qtok2; clear qtok2; refine (Mul_any _ s4 s2 a4 a2 n4 n2 c4 c2 3 3 (F - B) (D - B) (by omega) J4.out J2.out).mono ?_; rintro e qw2 ⟨qs2, qa2, qn2, qc2, rfl, qi2, qb2⟩; (try replace qb2 := of_drew qb2); have J1 := hide (J1.out.below qb2); have J2 := hide (J2.out.below qb2); have J3 := hide (J3.out.below qb2); have J4 := hide (J4.out.below qb2); have qI1 := hide (qI1.out.below qb2); have qS := (And.intro (cellKeep qb2 qS.1) (And.intro (cellKeep qb2 qS.2.1) (And.intro (cellKeep qb2 qS.2.2.1) (And.intro (cellKeep qb2 qS.2.2.2.1) (And.intro (cellKeep qb2 qS.2.2.2.2.1) (And.intro (cellKeep qb2 qS.2.2.2.2.2.1) (And.intro (cellKeep qb2 qS.2.2.2.2.2.2.1) (And.intro (cellKeep qb2 qS.2.2.2.2.2.2.2.1) (And.intro (cellKeep qb2 qS.2.2.2.2.2.2.2.2.1) (And.intro (cellKeep qb2 qS.2.2.2.2.2.2.2.2.2.1) (And.intro (cellKeep qb2 qS.2.2.2.2.2.2.2.2.2.2.1) (And.intro (cellKeep qb2 qS.2.2.2.2.2.2.2.2.2.2.2.1) (And.intro (cellKeep qb2 qS.2.2.2.2.2.2.2.2.2.2.2.2.1) (cellKeep qb2 qS.2.2.2.2.2.2.2.2.2.2.2.2.2)))))))))))))); have HB := hide (lecB HB.out qb2); clear qb2; have qI2 := hide qi2; clear qi2)
      | (go_at_call 76; have _t := qtok3; clear qtok3; refine (Add_any _ qs1 qs2 qa1 qa2 qn1 qn2 qc1 qc2 6 6 6 ((E - A) * (C - A)) ((F - B) * (D - B)) (by omega) (by omega) (by omega) qI1.out qI2.out).mono ?_; rintro e qw3 ⟨qs3, qa3, qn3, qc3, rfl, qi3, qb3⟩; (try replace qb3 := of_drew qb3); have J1 := hide (J1.out.below qb3); have J2 := hide (J2.out.below qb3); have J3 := hide (J3.out.below qb3); have J4 := hide (J4.out.below qb3); have qI1 := hide (qI1.out.below qb3); have qI2 := hide (qI2.out.below qb3); have qS := (And.intro (cellKeep qb3 qS.1) (And.intro (cellKeep qb3 qS.2.1) (And.intro (cellKeep qb3 qS.2.2.1) (And.intro (cellKeep qb3 qS.2.2.2.1) (And.intro (cellKeep qb3 qS.2.2.2.2.1) (And.intro (cellKeep qb3 qS.2.2.2.2.2.1) (And.intro (cellKeep qb3 qS.2.2.2.2.2.2.1) (And.intro (cellKeep qb3 qS.2.2.2.2.2.2.2.1) (And.intro (cellKeep qb3 qS.2.2.2.2.2.2.2.2.1) (And.intro (cellKeep qb3 qS.2.2.2.2.2.2.2.2.2.1) (And.intro (cellKeep qb3 qS.2.2.2.2.2.2.2.2.2.2.1) (And.intro (cellKeep qb3 qS.2.2.2.2.2.2.2.2.2.2.2.1) (And.intro (cellKeep qb3 qS.2.2.2.2.2.2.2.2.2.2.2.2.1) (cellKeep qb3 qS.2.2.2.2.2.2.2.2.2.2.2.2.2)))))))))))))); have HB := hide (lecB HB.out qb3); clear qb3; have qI3 := hide qi3; clear qi3)
      | (go_at_call 77; have _t := qtok4; clear qtok4; refine (square_any _ s1 a1 n1 c1 3 (C - A) (by omega) J1.out).mono ?_; rintro e qw4 ⟨qs4, qa4, qn4, qc4, rfl, qi4, qb4⟩; (try replace qb4 := of_drew qb4); have J1 := hide (J1.out.below qb4); have J2 := hide (J2.out.below qb4); have J3 := hide (J3.out.below qb4); have J4 := hide (J4.out.below qb4); have qI1 := hide (qI1.out.below qb4); have qI2 := hide (qI2.out.below qb4); have qI3 := hide (qI3.out.below qb4); have qS := (And.intro (cellKeep qb4 qS.1) (And.intro (cellKeep qb4 qS.2.1) (And.intro (cellKeep qb4 qS.2.2.1) (And.intro (cellKeep qb4 qS.2.2.2.1) (And.intro (cellKeep qb4 qS.2.2.2.2.1) (And.intro (cellKeep qb4 qS.2.2.2.2.2.1) (And.intro (cellKeep qb4 qS.2.2.2.2.2.2.1) (And.intro (cellKeep qb4 qS.2.2.2.2.2.2.2.1) (And.intro (cellKeep qb4 qS.2.2.2.2.2.2.2.2.1) (And.intro (cellKeep qb4 qS.2.2.2.2.2.2.2.2.2.1) (And.intro (cellKeep qb4 qS.2.2.2.2.2.2.2.2.2.2.1) (And.intro (cellKeep qb4 qS.2.2.2.2.2.2.2.2.2.2.2.1) (And.intro (cellKeep qb4 qS.2.2.2.2.2.2.2.2.2.2.2.2.1) (cellKeep qb4 qS.2.2.2.2.2.2.2.2.2.2.2.2.2)))))))))))))); have HB := hide (lecB HB.out qb4); clear qb4; have qI4 := hide qi4; clear qi4)
      | (go_at_call 77; have _t := qtok5; clear qtok5; refine (square_any _ s2 a2 n2 c2 3 (D - B) (by omega) J2.out).mono ?_; rintro e qw5 ⟨qs5, qa5, qn5, qc5, rfl, qi5, qb5⟩; (try replace qb5 := of_drew qb5); have J1 := hide (J1.out.below qb5); have J2 := hide (J2.out.below qb5); have J3 := hide (J3.out.below qb5); have J4 := hide (J4.out.below qb5); have qI1 := hide (qI1.out.below qb5); have qI2 := hide (qI2.out.below qb5); have qI3 := hide (qI3.out.below qb5); have qI4 := hide (qI4.out.below qb5); have qS := (And.intro (cellKeep qb5 qS.1) (And.intro (cellKeep qb5 qS.2.1) (And.intro (cellKeep qb5 qS.2.2.1) (And.intro (cellKeep qb5 qS.2.2.2.1) (And.intro (cellKeep qb5 qS.2.2.2.2.1) (And.intro (cellKeep qb5 qS.2.2.2.2.2.1) (And.intro (cellKeep qb5 qS.2.2.2.2.2.2.1) (And.intro (cellKeep qb5 qS.2.2.2.2.2.2.2.1) (And.intro (cellKeep qb5 qS.2.2.2.2.2.2.2.2.1) (And.intro (cellKeep qb5 qS.2.2.2.2.2.2.2.2.2.1) (And.intro (cellKeep qb5 qS.2.2.2.2.2.2.2.2.2.2.1) (And.intro (cellKeep qb5 qS.2.2.2.2.2.2.2.2.2.2.2.1) (And.intro (cellKeep qb5 qS.2.2.2.2.2.2.2.2.2.2.2.2.1) (cellKeep qb5 qS.2.2.2.2.2.2.2.2.2.2.2.2.2)))))))))))))); have HB := hide (lecB HB.out qb5); clear qb5; have qI5 := hide qi5; clear qi5)
      | (go_at_call 76; have _t := qtok6; clear qtok6; refine (Add_any _ qs4 qs5 qa4 qa5 qn4 qn5 qc4 qc5 6 6 6 ((C - A) * (C - A)) ((D - B) * (D - B)) (by omega) (by omega) (by omega) qI4.out qI5.out).mono ?_; rintro e qw6 ⟨qs6, qa6, qn6, qc6, rfl, qi6, qb6⟩; (try replace qb6 := of_drew qb6); have J1 := hide (J1.out.below qb6); have J2 := hide (J2.out.below qb6); have J3 := hide (J3.out.below qb6); have J4 := hide (J4.out.below qb6); have qI1 := hide (qI1.out.below qb6); have qI2 := hide (qI2.out.below qb6); have qI3 := hide (qI3.out.below qb6); have qI4 := hide (qI4.out.below qb6); have qI5 := hide (qI5.out.below qb6); have qS := (And.intro (cellKeep qb6 qS.1) (And.intro (cellKeep qb6 qS.2.1) (And.intro (cellKeep qb6 qS.2.2.1) (And.intro (cellKeep qb6 qS.2.2.2.1) (And.intro (cellKeep qb6 qS.2.2.2.2.1) (And.intro (cellKeep qb6 qS.2.2.2.2.2.1) (And.intro (cellKeep qb6 qS.2.2.2.2.2.2.1) (And.intro (cellKeep qb6 qS.2.2.2.2.2.2.2.1) (And.intro (cellKeep qb6 qS.2.2.2.2.2.2.2.2.1) (And.intro (cellKeep qb6 qS.2.2.2.2.2.2.2.2.2.1) (And.intro (cellKeep qb6 qS.2.2.2.2.2.2.2.2.2.2.1) (And.intro (cellKeep qb6 qS.2.2.2.2.2.2.2.2.2.2.2.1) (And.intro (cellKeep qb6 qS.2.2.2.2.2.2.2.2.2.2.2.2.1) (cellKeep qb6 qS.2.2.2.2.2.2.2.2.2.2.2.2.2)))))))))))))); have HB := hide (lecB HB.out qb6); clear qb6; have qI6 := hide qi6; clear qi6)
      | (go_at_call 18; have _t := qtok7; clear qtok7; refine (Mul_any _ s1 s4 a1 a4 n1 n4 c1 c4 3 3 (C - A) (F - B) (by omega) J1.out J4.out).mono ?_; rintro e qw7 ⟨qs7, qa7, qn7, qc7, rfl, qi7, qb7⟩; (try replace qb7 := of_drew qb7); have J1 := hide (J1.out.below qb7); have J2 := hide (J2.out.below qb7); have J3 := hide (J3.out.below qb7); have J4 := hide (J4.out.below qb7); have qI1 := hide (qI1.out.below qb7); have qI2 := hide (qI2.out.below qb7); have qI3 := hide (qI3.out.below qb7); have qI4 := hide (qI4.out.below qb7); have qI5 := hide (qI5.out.below qb7); have qI6 := hide (qI6.out.below qb7); have qS := (And.intro (cellKeep qb7 qS.1) (And.intro (cellKeep qb7 qS.2.1) (And.intro (cellKeep qb7 qS.2.2.1) (And.intro (cellKeep qb7 qS.2.2.2.1) (And.intro (cellKeep qb7 qS.2.2.2.2.1) (And.intro (cellKeep qb7 qS.2.2.2.2.2.1) (And.intro (cellKeep qb7 qS.2.2.2.2.2.2.1) (And.intro (cellKeep qb7 qS.2.2.2.2.2.2.2.1) (And.intro (cellKeep qb7 qS.2.2.2.2.2.2.2.2.1) (And.intro (cellKeep qb7 qS.2.2.2.2.2.2.2.2.2.1) (And.intro (cellKeep qb7 qS.2.2.2.2.2.2.2.2.2.2.1) (And.intro (cellKeep qb7 qS.2.2.2.2.2.2.2.2.2.2.2.1) (And.intro (cellKeep qb7 qS.2.2.2.2.2.2.2.2.2.2.2.2.1) (cellKeep qb7 qS.2.2.2.2.2.2.2.2.2.2.2.2.2)))))))))))))); have HB := hide (lecB HB.out qb7); clear qb7; have qI7 := hide qi7; clear qi7)
      | (go_at_call 18; have _t := qtok8; clear qtok8; refine (Mul_any _ s2 s3 a2 a3 n2 n3 c2 c3 3 3 (D - B) (E - A) (by omega) J2.out J3.out).mono ?_; rintro e qw8 ⟨qs8, qa8, qn8, qc8, rfl, qi8, qb8⟩; (try replace qb8 := of_drew qb8); have J1 := hide (J1.out.below qb8); have J2 := hide (J2.out.below qb8); have J3 := hide (J3.out.below qb8); have J4 := hide (J4.out.below qb8); have qI1 := hide (qI1.out.below qb8); have qI2 := hide (qI2.out.below qb8); have qI3 := hide (qI3.out.below qb8); have qI4 := hide (qI4.out.below qb8); have qI5 := hide (qI5.out.below qb8); have qI6 := hide (qI6.out.below qb8); have qI7 := hide (qI7.out.below qb8); have qS := (And.intro (cellKeep qb8 qS.1) (And.intro (cellKeep qb8 qS.2.1) (And.intro (cellKeep qb8 qS.2.2.1) (And.intro (cellKeep qb8 qS.2.2.2.1) (And.intro (cellKeep qb8 qS.2.2.2.2.1) (And.intro (cellKeep qb8 qS.2.2.2.2.2.1) (And.intro (cellKeep qb8 qS.2.2.2.2.2.2.1) (And.intro (cellKeep qb8 qS.2.2.2.2.2.2.2.1) (And.intro (cellKeep qb8 qS.2.2.2.2.2.2.2.2.1) (And.intro (cellKeep qb8 qS.2.2.2.2.2.2.2.2.2.1) (And.intro (cellKeep qb8 qS.2.2.2.2.2.2.2.2.2.2.1) (And.intro (cellKeep qb8 qS.2.2.2.2.2.2.2.2.2.2.2.1) (And.intro (cellKeep qb8 qS.2.2.2.2.2.2.2.2.2.2.2.2.1) (cellKeep qb8 qS.2.2.2.2.2.2.2.2.2.2.2.2.2)))))))))))))); have HB := hide (lecB HB.out qb8); clear qb8; have qI8 := hide qi8; clear qi8)
      | (go_at_call 60; have _t := qtok9; clear qtok9; refine (Sub_any _ qs7 qs8 qa7 qa8 qn7 qn8 qc7 qc8 6 6 6 ((C - A) * (F - B)) ((D - B) * (E - A)) (by omega) (by omega) (by omega) qI7.out qI8.out).mono ?_; rintro e qw9 ⟨qs9, qa9, qn9, qc9, rfl, qi9, qb9⟩; (try replace qb9 := of_drew qb9); have J1 := hide (J1.out.below qb9); have J2 := hide (J2.out.below qb9); have J3 := hide (J3.out.below qb9); have J4 := hide (J4.out.below qb9); have qI1 := hide (qI1.out.below qb9); have qI2 := hide (qI2.out.below qb9); have qI3 := hide (qI3.out.below qb9); have qI4 := hide (qI4.out.below qb9); have qI5 := hide (qI5.out.below qb9); have qI6 := hide (qI6.out.below qb9); have qI7 := hide (qI7.out.below qb9); have qI8 := hide (qI8.out.below qb9); have qS := (And.intro (cellKeep qb9 qS.1) (And.intro (cellKeep qb9 qS.2.1) (And.intro (cellKeep qb9 qS.2.2.1) (And.intro (cellKeep qb9 qS.2.2.2.1) (And.intro (cellKeep qb9 qS.2.2.2.2.1) (And.intro (cellKeep qb9 qS.2.2.2.2.2.1) (And.intro (cellKeep qb9 qS.2.2.2.2.2.2.1) (And.intro (cellKeep qb9 qS.2.2.2.2.2.2.2.1) (And.intro (cellKeep qb9 qS.2.2.2.2.2.2.2.2.1) (And.intro (cellKeep qb9 qS.2.2.2.2.2.2.2.2.2.1) (And.intro (cellKeep qb9 qS.2.2.2.2.2.2.2.2.2.2.1) (And.intro (cellKeep qb9 qS.2.2.2.2.2.2.2.2.2.2.2.1) (And.intro (cellKeep qb9 qS.2.2.2.2.2.2.2.2.2.2.2.2.1) (cellKeep qb9 qS.2.2.2.2.2.2.2.2.2.2.2.2.2)))))))))))))); have HB := hide (lecB HB.out qb9); clear qb9; have qI9 := hide qi9; clear qi9)
      | (go_at_call 78; have _t := qtok10; clear qtok10; refine (distSq_any _ A B E F hA hB hE hF).mono ?_; rintro e qw10 ⟨qs10, qa10, qn10, qc10, rfl, qi10, qb10⟩; (try replace qb10 := of_drew qb10); have J1 := hide (J1.out.below qb10); have J2 := hide (J2.out.below qb10); have J3 := hide (J3.out.below qb10); have J4 := hide (J4.out.below qb10); have qI1 := hide (qI1.out.below qb10); have qI2 := hide (qI2.out.below qb10); have qI3 := hide (qI3.out.below qb10); have qI4 := hide (qI4.out.below qb10); have qI5 := hide (qI5.out.below qb10); have qI6 := hide (qI6.out.below qb10); have qI7 := hide (qI7.out.below qb10); have qI8 := hide (qI8.out.below qb10); have qI9 := hide (qI9.out.below qb10); have qS := (And.intro (cellKeep qb10 qS.1) (And.intro (cellKeep qb10 qS.2.1) (And.intro (cellKeep qb10 qS.2.2.1) (And.intro (cellKeep qb10 qS.2.2.2.1) (And.intro (cellKeep qb10 qS.2.2.2.2.1) (And.intro (cellKeep qb10 qS.2.2.2.2.2.1) (And.intro (cellKeep qb10 qS.2.2.2.2.2.2.1) (And.intro (cellKeep qb10 qS.2.2.2.2.2.2.2.1) (And.intro (cellKeep qb10 qS.2.2.2.2.2.2.2.2.1) (And.intro (cellKeep qb10 qS.2.2.2.2.2.2.2.2.2.1) (And.intro (cellKeep qb10 qS.2.2.2.2.2.2.2.2.2.2.1) (And.intro (cellKeep qb10 qS.2.2.2.2.2.2.2.2.2.2.2.1) (And.intro (cellKeep qb10 qS.2.2.2.2.2.2.2.2.2.2.2.2.1) (cellKeep qb10 qS.2.2.2.2.2.2.2.2.2.2.2.2.2)))))))))))))); have HB := hide (lecB HB.out qb10); clear qb10; have qI10 := hide qi10; clear qi10)
      | (go_at_call 78; have _t := qtok11; clear qtok11; refine (distSq_any _ C D E F hC hD hE hF).mono ?_; rintro e qw11 ⟨qs11, qa11, qn11, qc11, rfl, qi11, qb11⟩; (try replace qb11 := of_drew qb11); have J1 := hide (J1.out.below qb11); have J2 := hide (J2.out.below qb11); have J3 := hide (J3.out.below qb11); have J4 := hide (J4.out.below qb11); have qI1 := hide (qI1.out.below qb11); have qI2 := hide (qI2.out.below qb11); have qI3 := hide (qI3.out.below qb11); have qI4 := hide (qI4.out.below qb11); have qI5 := hide (qI5.out.below qb11); have qI6 := hide (qI6.out.below qb11); have qI7 := hide (qI7.out.below qb11); have qI8 := hide (qI8.out.below qb11); have qI9 := hide (qI9.out.below qb11); have qI10 := hide (qI10.out.below qb11); have qS := (And.intro (cellKeep qb11 qS.1) (And.intro (cellKeep qb11 qS.2.1) (And.intro (cellKeep qb11 qS.2.2.1) (And.intro (cellKeep qb11 qS.2.2.2.1) (And.intro (cellKeep qb11 qS.2.2.2.2.1) (And.intro (cellKeep qb11 qS.2.2.2.2.2.1) (And.intro (cellKeep qb11 qS.2.2.2.2.2.2.1) (And.intro (cellKeep qb11 qS.2.2.2.2.2.2.2.1) (And.intro (cellKeep qb11 qS.2.2.2.2.2.2.2.2.1) (And.intro (cellKeep qb11 qS.2.2.2.2.2.2.2.2.2.1) (And.intro (cellKeep qb11 qS.2.2.2.2.2.2.2.2.2.2.1) (And.intro (cellKeep qb11 qS.2.2.2.2.2.2.2.2.2.2.2.1) (And.intro (cellKeep qb11 qS.2.2.2.2.2.2.2.2.2.2.2.2.1) (cellKeep qb11 qS.2.2.2.2.2.2.2.2.2.2.2.2.2)))))))))))))); have HB := hide (lecB HB.out qb11); clear qb11; have qI11 := hide qi11; clear qi11; obtain ⟨r0, r1, r2, r3, r4, r5, r6, r7, r8, r9, g0, g1, g2, g3, g4, g5, g6, g7, g8, g9⟩ := (HWr.out.below hWs HB.out).all))
  go_wp2
  have nd := (HWr.out.below hWs HB.out).noDig
  exact bodyPost_ret (v := .agg #[.bool qs3, .slice qa3 qn3 qc3, .bool qs6, .slice qa6 qn6 qc6, .bool qs9, .slice qa9 qn9 qc9, .bool qs10, .slice qa10 qn10 qc10, .bool qs11, .slice qa11 qn11 qc11]) (by simp [results, Try.results32, go_sem, r0, r1, r2, r3, r4, r5, r6, r7, r8, r9]) rfl ⟨_, rfl, ⟨qs3, qa3, qn3, qc3, qs6, qa6, qn6, qc6, qs9, qa9, qn9, qc9, qs10, qa10, qn10, qc10, qs11, qa11, qn11, qc11, rfl, (qI3.out.mono (by omega)).set10 nd, (qI6.out.mono (by omega)).set10 nd, (qI9.out.mono (by omega)).set10 nd, (qI10.out.mono (by omega)).set10 nd, (qI11.out.mono (by omega)).set10 nd⟩, (((((((((((HWb.out.trans (HB.out.mono HWb.out.size)).setCell (by simp) _).setCell (by simp) _).setCell (by simp) _).setCell (by simp) _).setCell (by simp) _).setCell (by simp) _).setCell (by simp) _).setCell (by simp) _).setCell (by simp) _).setCell (by simp) _)⟩
end Go.Proofs.Qxb6500775a
