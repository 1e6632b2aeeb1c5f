import Derived.Test.Qxb6500774aTg1
namespace Go.Proofs.Qxb6500774a
open Go.RowKit
set_option linter.unusedVariables false
set_option linter.unusedSimpArgs false

set_option linter.unusedSimpArgs false in
set_option linter.unusedVariables false in
set_option maxRecDepth 100000 in
set_option maxHeartbeats 32000000 in
theorem prog_zero (nm : ByteArray) (A : S) (qd : Option Addr) (vc : Nat) (vb : SLc) (G : List (List Value)) (w : World) (D : Nat → Prop) (hrw : RW w D G vb) (hss : SS w D A false G) (hgs : gS A) (hsd : 1 + sdep A ≤ 1000000) (hl : (prPg ⟨nm, [], A⟩).length ≤ 1099511627776) :
    Calls Try.prog 11 #[.agg #[.string nm, .slice qd 0 vc, .slice vb.q vb.n vb.c]] w (TxPost w (prPg ⟨nm, [], A⟩)) := by
  have HL := hide hl
  have HSD := hide hsd
  have HLS := hide (pstmts_any A hgs)
  have exq : Ex (fun _ => False) w (w.alloc (.cells #[.string nm, .slice qd 0 vc, .slice vb.q vb.n vb.c] 29)) := (Ex.refl _ _).alloc _
  have exp : Ex (fun _ => False) (w.alloc (.cells #[.string nm, .slice qd 0 vc, .slice vb.q vb.n vb.c] 29)) ((w.alloc (.cells #[.string nm, .slice qd 0 vc, .slice vb.q vb.n vb.c] 29)).alloc (.cells #[.slice none 0 0, .int .i64 0] 72)) := (Ex.refl _ _).alloc _
  have HQ := hide (P3.new1 w nm ⟨qd, 0, vc⟩ vb)
  have HP0 := hide (PR.new0 (w.alloc (.cells #[.string nm, .slice qd 0 vc, .slice vb.q vb.n vb.c] 29)))
  have HPD : Hid (∀ k, PD ((w.alloc (.cells #[.string nm, .slice qd 0 vc, .slice vb.q vb.n vb.c] 29)).alloc (.cells #[.slice none 0 0, .int .i64 0] 72)) (w.alloc (.cells #[.string nm, .slice qd 0 vc, .slice vb.q vb.n vb.c] 29)).heap.size k → (w.alloc (.cells #[.string nm, .slice qd 0 vc, .slice vb.q vb.n vb.c] 29)).heap.size ≤ k) := fun k z => PR.pd0 _ z
  have HE0 := hide (exq.trans exp)
  have HPW : Hid (∀ k, PD ((w.alloc (.cells #[.string nm, .slice qd 0 vc, .slice vb.q vb.n vb.c] 29)).alloc (.cells #[.slice none 0 0, .int .i64 0] 72)) (w.alloc (.cells #[.string nm, .slice qd 0 vc, .slice vb.q vb.n vb.c] 29)).heap.size k → w.heap.size ≤ k) := fun k z => Nat.le_trans exq.size (HPD.out k z)
  have hDD : ∀ k, PD ((w.alloc (.cells #[.string nm, .slice qd 0 vc, .slice vb.q vb.n vb.c] 29)).alloc (.cells #[.slice none 0 0, .int .i64 0] 72)) (w.alloc (.cells #[.string nm, .slice qd 0 vc, .slice vb.q vb.n vb.c] 29)).heap.size k → D k ∨ w.heap.size ≤ k := fun k z => .inr (HPW.out k z)
  have HRW0 : Hid (RW ((w.alloc (.cells #[.string nm, .slice qd 0 vc, .slice vb.q vb.n vb.c] 29)).alloc (.cells #[.slice none 0 0, .int .i64 0] 72)) (PD ((w.alloc (.cells #[.string nm, .slice qd 0 vc, .slice vb.q vb.n vb.c] 29)).alloc (.cells #[.slice none 0 0, .int .i64 0] 72)) (w.alloc (.cells #[.string nm, .slice qd 0 vc, .slice vb.q vb.n vb.c] 29)).heap.size) G vb) := hrw.keep HE0.out (fun _ z => z.elim) hDD
  have HSS0 : Hid (SS ((w.alloc (.cells #[.string nm, .slice qd 0 vc, .slice vb.q vb.n vb.c] 29)).alloc (.cells #[.slice none 0 0, .int .i64 0] 72)) (PD ((w.alloc (.cells #[.string nm, .slice qd 0 vc, .slice vb.q vb.n vb.c] 29)).alloc (.cells #[.slice none 0 0, .int .i64 0] 72)) (w.alloc (.cells #[.string nm, .slice qd 0 vc, .slice vb.q vb.n vb.c] 29)).heap.size) A false G) := hss.keep HE0.out (fun _ z => z.elim) hDD
  have HBP0 : Hid (BP (w.alloc (.cells #[.string nm, .slice qd 0 vc, .slice vb.q vb.n vb.c] 29)).heap.size ((w.alloc (.cells #[.string nm, .slice qd 0 vc, .slice vb.q vb.n vb.c] 29)).alloc (.cells #[.slice none 0 0, .int .i64 0] 72)) w.heap.size nm ⟨qd, 0, vc⟩ vb) := ⟨HQ.out.keep exp (fun z => z), fun z => by have := HPD.out _ z; simp at this; omega⟩
  have HSX : Hid (strL (⟨#[80, 82, 79, 71, 82, 65, 77, 32]⟩ ++ nm ++ ⟨#[10]⟩) = [80, 82, 79, 71, 82, 65, 77, 32] ++ strL nm ++ [10]) := by show _ = _; rw [strL_app, strL_app]; rfl
  have hsz1 : ¬ 9223372036854775807 < 8 + nm.size := by
    have := HL.out
    unfold prPg at this
    simp only [List.length_append, ← strL_len] at this
    omega
  have hsz2 : ¬ 9223372036854775807 < 8 + nm.size + 1 := by
    have := HL.out
    unfold prPg at this
    simp only [List.length_append, ← strL_len] at this
    omega
  have hsz3 : ¬ 9223372036854775807 < (⟨#[80, 82, 79, 71, 82, 65, 77, 32]⟩ ++ nm : ByteArray).size + 1 := by rw [app_size]; exact hsz2
  clear hl exq exp HQ HPD hrw hss hgs hsd hDD
  obtain ⟨TT, hTT⟩ : ∃ T, prPg ⟨nm, [], A⟩ = T := ⟨_, rfl⟩
  have HTT := hide hTT
  rw [hTT] at HL ⊢
  clear hTT
  unfold prPg at HTT
  dsimp only at HTT
  go_enter Try.func11, Try.ntmps11
  go_upto_region 2 with fail
  generalize ((w.alloc (.cells #[.string nm, .slice qd 0 vc, .slice vb.q vb.n vb.c] 29)).alloc (.cells #[.slice none 0 0, .int .i64 0] 72)) = w1 at *
  rw [show (w.alloc (.cells #[.string nm, .slice qd 0 vc, .slice vb.q vb.n vb.c] 29)).heap.size = w.heap.size + 1 by simp] at HP0 HRW0 HSS0 HBP0 HPW
  obtain ⟨b, hbb⟩ : ∃ x, w.heap.size + 1 = x := ⟨_, rfl⟩
  rw [hbb] at HP0 HRW0 HSS0 HBP0 HPW
  rw [hbb]
  clear hbb
  obtain ⟨r1, hr1⟩ : ∃ x, w.heap.size = x := ⟨_, rfl⟩
  rw [hr1] at HBP0
  rw [hr1]
  have HR1 := hide hr1
  clear hr1
  have HT := hide (text_any w1 b [] 0 (⟨#[80, 82, 79, 71, 82, 65, 77, 32]⟩ ++ nm ++ ⟨#[10]⟩) HP0.out (by have := HL.out; rw [← HTT.out] at this; rw [HSX.out]; simp only [List.length_append, List.length_nil] at this ⊢; omega))
  rw [HSX.out, List.nil_append] at HT
  have k0 := HBP0.out.te.c0
  go_wp2_with fail
  refine HT.out.mono ?_
  rintro e9 w2 ⟨rfl, hp9, hg9⟩
  have HP2 := hide hp9
  have HG2 := hide hg9
  have HRW2 := hide (HRW0.out.go hg9)
  have HSS2 := hide (HSS0.out.go hg9)
  have HBP2 := hide (HBP0.out.go hg9)
  clear hp9 hg9 HP0 HT HRW0 HSS0 HBP0 k0 hsz1 hsz2 hsz3 HSX
  simp only []
  rw [show prDs none [] = [] from rfl, List.append_nil] at HTT
  obtain ⟨Y, hY⟩ : ∃ z, [80, 82, 79, 71, 82, 65, 77, 32] ++ strL nm ++ [10] = z := ⟨_, rfl⟩
  rw [hY] at HTT HP2
  clear hY
  have HY : Hid (Y ++ (pr A 1 true ++ [69, 78, 68, 95, 80, 82, 79, 71, 82, 65, 77, 10]) = TT) := by
    show _ = _
    rw [← HTT.out]
    simp only [List.append_assoc]
  have HLX : Hid ((Y ++ (pr A 1 true ++ [69, 78, 68, 95, 80, 82, 79, 71, 82, 65, 77, 10])).length ≤ 1099511627776) := by rw [HY.out]; exact HL.out
  clear HTT
  have k1 := HBP2.out.te.c1
  dsimp only at k1
  go_upto_region 3 with fail
  go_wp2_with fail
  clear k1
  have HP0 := HP2
  have HG0 := HG2
  have HRW0 := HRW2
  have HSS0 := HSS2
  have HBP0 := HBP2
  clear HP2 HG2 HRW2 HSS2 HBP2
  go_loopw [17] (fun v17 wr => v17 = .int .i64 0 ∧ w2 = wr) (fun _ _ => 0)
  case atStart => exact ⟨rfl, rfl⟩
  case round =>
    obtain ⟨rfl, rfl⟩ := hrel
    have k2 := HBP0.out.te.c2
    have HC : Hid (Calls Try.prog 32 #[.pointer (some ⟨b, 0, none⟩), slV vb] w2 (PRPost w2 b (Y ++ pr A 1 true) 0)) := HLS.out w2 b Y 0 vb G HP0.out HRW0.out HSS0.out (by have := HLX.out; show (Y ++ pr A 1 true).length ≤ _; simp only [List.length_append] at this ⊢; omega) (by have := HSD.out; omega)
    unfold slV at HC
    go_upto_region 18 with fail
    go_wp2_with fail
    refine HC.out.mono ?_
    rintro e9 w4 ⟨rfl, hp9, hg9⟩
    have HP4 := hide hp9
    have HG4 := hide (HG0.out.trans hg9)
    clear hp9 hg9 HP0 HG0 HC HRW0 HSS0 HBP0 k2
    simp only []
    have HT := hide (text_any w4 b (Y ++ pr A 1 true) 0 ⟨#[69, 78, 68, 95, 80, 82, 79, 71, 82, 65, 77, 10]⟩ HP4.out (by have := HLX.out; rw [show strL ⟨#[69, 78, 68, 95, 80, 82, 79, 71, 82, 65, 77, 10]⟩ = [69, 78, 68, 95, 80, 82, 79, 71, 82, 65, 77, 10] from rfl]; simp only [List.length_append] at this ⊢; omega))
    rw [show strL ⟨#[69, 78, 68, 95, 80, 82, 79, 71, 82, 65, 77, 10]⟩ = [69, 78, 68, 95, 80, 82, 79, 71, 82, 65, 77, 10] from rfl, List.append_assoc, HY.out] at HT
    go_upto_region 19 with fail
    go_wp2_with fail
    refine HT.out.mono ?_
    rintro e9 w9 ⟨rfl, hp9, hg9⟩
    have HP9 := hide hp9
    have HG9 := hide (HG4.out.trans hg9)
    clear hp9 hg9 HP4 HG4 HT
    simp only []
    obtain ⟨a, c, hc, hs, ha, hcc⟩ := HP9.out.src
    have HF := hide (tx_fin HE0.out HPW.out HG9.out hs ha hcc)
    clear hs ha hcc HP9 HG9
    go_wp2
    exact bodyPost_ret (by simp [results, Try.results11]) rfl HF.out
theorem prog_any (P : Pg) (vd vb : SLc) (F G : List (List Value)) (w : World) (D : Nat → Prop) (hrd : RW w D F vd) (hds : DS w D P.ds F) (hrw : RW w D G vb) (hss : SS w D P.bd false G) (hgd : ∀ x ∈ P.ds, gD x) (hgs : gS P.bd) (hsd : 1 + sdep P.bd ≤ 1000000) (hl : (prPg P).length ≤ 1099511627776) :
    Calls Try.prog 11 #[.agg #[.string P.nm, .slice vd.q vd.n vd.c, .slice vb.q vb.n vb.c]] w (TxPost w (prPg P)) := by
  obtain ⟨nm, L0, A⟩ := P
  obtain ⟨q, vn, vc⟩ := vd
  have hv : vn = F.length := hrd.1
  by_cases h0 : vn = 0
  · subst h0
    have hF : F = [] := List.eq_nil_of_length_eq_zero hv.symm
    have hL : L0 = [] := by
      rcases hds.hd with ⟨z1, z2⟩ | ⟨x, v, F2, L2, hL2, hF2, _⟩
      · exact z1
      · rw [hF] at hF2; cases hF2
    subst hL
    exact prog_zero nm A q vc vb G w D hrw hss hgs hsd hl
  · obtain ⟨g, hq, hg, hrv⟩ := hrd.2.2 (Nat.pos_of_ne_zero h0)
    dsimp only at hq
    subst hq
    exact prog_pos nm L0 A g vn vc vb F G w D hv hrd.2.1 hg hrv hds hrw hss hgd hgs hsd hl
end Go.Proofs.Qxb6500774a
