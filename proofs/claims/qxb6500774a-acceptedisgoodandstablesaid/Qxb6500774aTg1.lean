import Derived.Test.Qxb6500774aTg0
import Derived.Test.Qxb6500774aUh
namespace Go.Proofs.Qxb6500774a
open Go.RowKit
set_option linter.unusedVariables false
set_option linter.unusedSimpArgs false

def PVK (F : List (List Value)) (k : Nat) (pv : Option ByteArray) : Prop := (k = 0 ∧ pv = none) ∨ ∃ p V, pv = some p ∧ 0 < k ∧ F[k - 1]? = some V ∧ V[0]? = some (.string p)
theorem wrk6 {j : Nat} (h : j < 9223372036854775807) : wrap64 ((j : Int) + 1) = ((j + 1 : Nat) : Int) := by unfold wrap64; omega
theorem wrj {j : Nat} (h : j < 9223372036854775807) : wrap64 (j : Int) = (j : Int) := by unfold wrap64; omega
theorem wrj2 {j : Nat} (h : j < 9223372036854775807) : IntKind.i64.wrap (j : Int) = (j : Int) := by rw [IntKind.wrap_i64]; omega
set_option linter.unusedSimpArgs false in
set_option linter.unusedVariables false in
set_option maxRecDepth 100000 in
set_option maxHeartbeats 32000000 in
theorem prog_pos (nm : ByteArray) (L0 : List Dc) (A : S) (g vn vc : Nat) (vb : SLc) (F G : List (List Value)) (w : World) (D : Nat → Prop) (hv : vn = F.length) (hvc : vn ≤ vc ∧ vc ≤ maxLen) (hg0 : g < w.heap.size ∧ ¬ D g) (hrv : RV w g F.flatten) (hds : DS w D L0 F) (hrw : RW w D G vb) (hss : SS w D A false G) (hgd : ∀ x ∈ L0, gD x) (hgs : gS A) (hsd : 1 + sdep A ≤ 1000000) (hl : (prPg ⟨nm, L0, A⟩).length ≤ 1099511627776) :
    Calls Try.prog 11 #[.agg #[.string nm, .slice (some ⟨g, 0, none⟩) vn vc, .slice vb.q vb.n vb.c]] w (TxPost w (prPg ⟨nm, L0, A⟩)) := by
  have HL := hide hl
  have HV := hide hv
  have HVC := hide hvc
  have HLEN : Hid (∀ V ∈ F, V.length = 9) := hds.len.2
  have HSD := hide hsd
  have HLS := hide (pstmts_any A hgs)
  have exq : Ex (fun _ => False) w (w.alloc (.cells #[.string nm, .slice (some ⟨g, 0, none⟩) vn vc, .slice vb.q vb.n vb.c] 29)) := (Ex.refl _ _).alloc _
  have exp : Ex (fun _ => False) (w.alloc (.cells #[.string nm, .slice (some ⟨g, 0, none⟩) vn vc, .slice vb.q vb.n vb.c] 29)) ((w.alloc (.cells #[.string nm, .slice (some ⟨g, 0, none⟩) vn vc, .slice vb.q vb.n vb.c] 29)).alloc (.cells #[.slice none 0 0, .int .i64 0] 72)) := (Ex.refl _ _).alloc _
  have HQ := hide (P3.new1 w nm ⟨some ⟨g, 0, none⟩, vn, vc⟩ vb)
  have HP0 := hide (PR.new0 (w.alloc (.cells #[.string nm, .slice (some ⟨g, 0, none⟩) vn vc, .slice vb.q vb.n vb.c] 29)))
  have HPD : Hid (∀ k, PD ((w.alloc (.cells #[.string nm, .slice (some ⟨g, 0, none⟩) vn vc, .slice vb.q vb.n vb.c] 29)).alloc (.cells #[.slice none 0 0, .int .i64 0] 72)) (w.alloc (.cells #[.string nm, .slice (some ⟨g, 0, none⟩) vn vc, .slice vb.q vb.n vb.c] 29)).heap.size k → (w.alloc (.cells #[.string nm, .slice (some ⟨g, 0, none⟩) vn vc, .slice vb.q vb.n vb.c] 29)).heap.size ≤ k) := fun k z => PR.pd0 _ z
  have HE0 := hide (exq.trans exp)
  have HPW : Hid (∀ k, PD ((w.alloc (.cells #[.string nm, .slice (some ⟨g, 0, none⟩) vn vc, .slice vb.q vb.n vb.c] 29)).alloc (.cells #[.slice none 0 0, .int .i64 0] 72)) (w.alloc (.cells #[.string nm, .slice (some ⟨g, 0, none⟩) vn vc, .slice vb.q vb.n vb.c] 29)).heap.size k → w.heap.size ≤ k) := fun k z => Nat.le_trans exq.size (HPD.out k z)
  have hDD : ∀ k, PD ((w.alloc (.cells #[.string nm, .slice (some ⟨g, 0, none⟩) vn vc, .slice vb.q vb.n vb.c] 29)).alloc (.cells #[.slice none 0 0, .int .i64 0] 72)) (w.alloc (.cells #[.string nm, .slice (some ⟨g, 0, none⟩) vn vc, .slice vb.q vb.n vb.c] 29)).heap.size k → D k ∨ w.heap.size ≤ k := fun k z => .inr (HPW.out k z)
  have HDS0 : Hid (DS ((w.alloc (.cells #[.string nm, .slice (some ⟨g, 0, none⟩) vn vc, .slice vb.q vb.n vb.c] 29)).alloc (.cells #[.slice none 0 0, .int .i64 0] 72)) (PD ((w.alloc (.cells #[.string nm, .slice (some ⟨g, 0, none⟩) vn vc, .slice vb.q vb.n vb.c] 29)).alloc (.cells #[.slice none 0 0, .int .i64 0] 72)) (w.alloc (.cells #[.string nm, .slice (some ⟨g, 0, none⟩) vn vc, .slice vb.q vb.n vb.c] 29)).heap.size) L0 F) := hds.keep HE0.out (fun _ z => z.elim) hDD
  have HRW0 : Hid (RW ((w.alloc (.cells #[.string nm, .slice (some ⟨g, 0, none⟩) vn vc, .slice vb.q vb.n vb.c] 29)).alloc (.cells #[.slice none 0 0, .int .i64 0] 72)) (PD ((w.alloc (.cells #[.string nm, .slice (some ⟨g, 0, none⟩) vn vc, .slice vb.q vb.n vb.c] 29)).alloc (.cells #[.slice none 0 0, .int .i64 0] 72)) (w.alloc (.cells #[.string nm, .slice (some ⟨g, 0, none⟩) vn vc, .slice vb.q vb.n vb.c] 29)).heap.size) G vb) := hrw.keep HE0.out (fun _ z => z.elim) hDD
  have HSS0 : Hid (SS ((w.alloc (.cells #[.string nm, .slice (some ⟨g, 0, none⟩) vn vc, .slice vb.q vb.n vb.c] 29)).alloc (.cells #[.slice none 0 0, .int .i64 0] 72)) (PD ((w.alloc (.cells #[.string nm, .slice (some ⟨g, 0, none⟩) vn vc, .slice vb.q vb.n vb.c] 29)).alloc (.cells #[.slice none 0 0, .int .i64 0] 72)) (w.alloc (.cells #[.string nm, .slice (some ⟨g, 0, none⟩) vn vc, .slice vb.q vb.n vb.c] 29)).heap.size) A false G) := hss.keep HE0.out (fun _ z => z.elim) hDD
  have HRV0 : Hid (RV ((w.alloc (.cells #[.string nm, .slice (some ⟨g, 0, none⟩) vn vc, .slice vb.q vb.n vb.c] 29)).alloc (.cells #[.slice none 0 0, .int .i64 0] 72)) g F.flatten ∧ g < ((w.alloc (.cells #[.string nm, .slice (some ⟨g, 0, none⟩) vn vc, .slice vb.q vb.n vb.c] 29)).alloc (.cells #[.slice none 0 0, .int .i64 0] 72)).heap.size ∧ ¬ PD ((w.alloc (.cells #[.string nm, .slice (some ⟨g, 0, none⟩) vn vc, .slice vb.q vb.n vb.c] 29)).alloc (.cells #[.slice none 0 0, .int .i64 0] 72)) (w.alloc (.cells #[.string nm, .slice (some ⟨g, 0, none⟩) vn vc, .slice vb.q vb.n vb.c] 29)).heap.size g) := ⟨hrv.keep HE0.out (fun z => z), Nat.lt_of_lt_of_le hg0.1 HE0.out.size, fun z => by have := HPW.out _ z; omega⟩
  have HBP0 : Hid (BP (w.alloc (.cells #[.string nm, .slice (some ⟨g, 0, none⟩) vn vc, .slice vb.q vb.n vb.c] 29)).heap.size ((w.alloc (.cells #[.string nm, .slice (some ⟨g, 0, none⟩) vn vc, .slice vb.q vb.n vb.c] 29)).alloc (.cells #[.slice none 0 0, .int .i64 0] 72)) w.heap.size nm ⟨some ⟨g, 0, none⟩, vn, vc⟩ vb) := ⟨HQ.out.keep exp (fun z => z), fun z => by have := HPD.out _ z; simp at this; omega⟩
  have HGD0 := hide hgd
  have HSX : Hid (strL (⟨#[80, 82, 79, 71, 82, 65, 77, 32]⟩ ++ nm ++ ⟨#[10]⟩) = [80, 82, 79, 71, 82, 65, 77, 32] ++ strL nm ++ [10]) := by show _ = _; rw [strL_app, strL_app]; rfl
  have hsz1 : ¬ 9223372036854775807 < 8 + nm.size := by
    have := HL.out
    unfold prPg at this
    simp only [List.length_append, ← strL_len] at this
    omega
  have hsz2 : ¬ 9223372036854775807 < 8 + nm.size + 1 := by
    have := HL.out
    unfold prPg at this
    simp only [List.length_append, ← strL_len] at this
    omega
  have hsz3 : ¬ 9223372036854775807 < (⟨#[80, 82, 79, 71, 82, 65, 77, 32]⟩ ++ nm : ByteArray).size + 1 := by rw [app_size]; exact hsz2
  clear hl exq exp HQ HPD hv hvc hg0 hrv hds hrw hss hgd hgs hsd hDD
  obtain ⟨TT, hTT⟩ : ∃ T, prPg ⟨nm, L0, A⟩ = T := ⟨_, rfl⟩
  have HTT := hide hTT
  rw [hTT] at HL ⊢
  clear hTT
  unfold prPg at HTT
  dsimp only at HTT
  go_enter Try.func11, Try.ntmps11
  go_upto_region 2 with fail
  generalize ((w.alloc (.cells #[.string nm, .slice (some ⟨g, 0, none⟩) vn vc, .slice vb.q vb.n vb.c] 29)).alloc (.cells #[.slice none 0 0, .int .i64 0] 72)) = w1 at *
  rw [show (w.alloc (.cells #[.string nm, .slice (some ⟨g, 0, none⟩) vn vc, .slice vb.q vb.n vb.c] 29)).heap.size = w.heap.size + 1 by simp] at HP0 HDS0 HRW0 HSS0 HRV0 HBP0 HPW
  obtain ⟨b, hbb⟩ : ∃ x, w.heap.size + 1 = x := ⟨_, rfl⟩
  rw [hbb] at HP0 HDS0 HRW0 HSS0 HRV0 HBP0 HPW
  rw [hbb]
  clear hbb
  obtain ⟨r1, hr1⟩ : ∃ x, w.heap.size = x := ⟨_, rfl⟩
  rw [hr1] at HBP0
  rw [hr1]
  have HR1 := hide hr1
  clear hr1
  have HT := hide (text_any w1 b [] 0 (⟨#[80, 82, 79, 71, 82, 65, 77, 32]⟩ ++ nm ++ ⟨#[10]⟩) HP0.out (by have := HL.out; rw [← HTT.out] at this; rw [HSX.out]; simp only [List.length_append, List.length_nil] at this ⊢; omega))
  rw [HSX.out, List.nil_append] at HT
  have k0 := HBP0.out.te.c0
  go_wp2_with fail
  refine HT.out.mono ?_
  rintro e9 w2 ⟨rfl, hp9, hg9⟩
  have HP2 := hide hp9
  have HG2 := hide hg9
  have HDS2 := hide (HDS0.out.go hg9)
  have HRW2 := hide (HRW0.out.go hg9)
  have HSS2 := hide (HSS0.out.go hg9)
  have HRV2 := hide (RV.go HRV0.out.1 HRV0.out.2 hg9)
  have HBP2 := hide (HBP0.out.go hg9)
  clear hp9 hg9 HP0 HT HDS0 HRW0 HSS0 HRV0 HBP0 k0 hsz1 hsz2 hsz3 HSX
  simp only []
  have k1 := HBP2.out.te.c1
  dsimp only at k1
  obtain ⟨RE, hRE⟩ : ∃ R, pr A 1 true ++ [69, 78, 68, 95, 80, 82, 79, 71, 82, 65, 77, 10] = R := ⟨_, rfl⟩
  have HRE := hide hRE
  clear hRE
  have HR0 : Hid (∃ (k : Nat) (L1 : List Dc) (F1 : List (List Value)) (Y : List Int) (pv : Option ByteArray), Value.int .i64 0 = .int .i64 k ∧ k ≤ vn ∧ PR w2 b Y 0 ∧ PGo b w1 w2 ∧ DS w2 (PD w2 b) L1 F1 ∧ F.drop k = F1 ∧ (RV w2 g F.flatten ∧ g < w2.heap.size ∧ ¬ PD w2 b g) ∧ BP b w2 r1 nm ⟨some ⟨g, 0, none⟩, vn, vc⟩ vb ∧ RW w2 (PD w2 b) G vb ∧ SS w2 (PD w2 b) A false G ∧ (∀ x ∈ L1, gD x) ∧ PVK F k pv ∧ Y ++ prDs pv L1 ++ RE = TT) := ⟨0, L0, F, _, none, rfl, Nat.zero_le _, HP2.out, HG2.out, HDS2.out, rfl, HRV2.out, HBP2.out, HRW2.out, HSS2.out, HGD0.out, .inl ⟨rfl, rfl⟩, by rw [← HTT.out, ← HRE.out]; simp only [List.append_assoc]⟩
  clear HP2 HG2 HDS2 HRW2 HSS2 HRV2 HBP2 HGD0 HTT
  go_upto_region 3 with fail
  go_wp2_with fail
  clear k1
  go_loopw [17] (fun v17 wr => ∃ (k : Nat) (L1 : List Dc) (F1 : List (List Value)) (Y : List Int) (pv : Option ByteArray), v17 = .int .i64 k ∧ k ≤ vn ∧ PR wr b Y 0 ∧ PGo b w1 wr ∧ DS wr (PD wr b) L1 F1 ∧ F.drop k = F1 ∧ (RV wr g F.flatten ∧ g < wr.heap.size ∧ ¬ PD wr b g) ∧ BP b wr r1 nm ⟨some ⟨g, 0, none⟩, vn, vc⟩ vb ∧ RW wr (PD wr b) G vb ∧ SS wr (PD wr b) A false G ∧ (∀ x ∈ L1, gD x) ∧ PVK F k pv ∧ Y ++ prDs pv L1 ++ RE = TT) (fun v17 _ => vn - (intOf v17).toNat)
  case atStart => exact HR0.out
  case round =>
    clear HR0
    obtain ⟨k, L1, F1, Y, pv, rfl, hk, h1, h2, h3, h4, h5, h6, h7, h8, h9, h10, h11⟩ := hrel
    have HP0 := hide h1
    have HG0 := hide h2
    have HDS0 := hide h3
    have HF1 := hide h4
    have HRV0 := hide h5
    have HBP0 := hide h6
    have HRW0 := hide h7
    have HSS0 := hide h8
    have HGD := hide h9
    have HPV := hide h10
    have HTX := hide h11
    clear h1 h2 h3 h4 h5 h6 h7 h8 h9 h10 h11
    by_cases hlt : k < vn
    · have d1 : decide ((k : Int) < (vn : Int)) = true := decide_eq_true (by omega)
      have d2 : decide (k < vn) = true := decide_eq_true hlt
      have hwk : IntKind.i64.wrap ((k : Int) + 1) = ((k + 1 : Nat) : Int) := wrk (by have := HVC.out; unfold maxLen at this; omega)
      obtain ⟨V, hV⟩ : ∃ V, F[k]? = some V := ⟨_, List.getElem?_eq_getElem (by rw [← HV.out]; exact hlt)⟩
      have hd : F.drop k = V :: F.drop (k + 1) := by
        obtain ⟨h, e⟩ := List.getElem?_eq_some_iff.1 hV
        rw [List.drop_eq_getElem_cons h, e]
      rcases HDS0.out.hd with ⟨z1, z2⟩ | ⟨x, vi, F2, L2, hL2, hF2, hin, hds2⟩
      · rw [z2, hd] at HF1; exact absurd HF1.out (by intro q; cases q)
      obtain ⟨hVe, hF3⟩ : V = [.string x.cls, .string x.nm, .string x.ty, .bool x.arr, .int .i64 x.lo, .int .i64 x.hi, .slice vi.q vi.n vi.c, .int .i64 x.l, .int .i64 x.c] ∧ F.drop (k + 1) = F2 := by
        have := HF1.out
        rw [hd, hF2] at this
        injection this with q1 q2
        exact ⟨q1, q2⟩
      subst hVe
      subst hL2
      have HF3 := hide hF3
      have HVK := hide hV
      have HX := hide (HGD.out x (List.mem_cons_self ..))
      have HGD2 : Hid (∀ y ∈ L2, gD y) := fun z hz => HGD.out z (List.mem_cons_of_mem _ hz)
      rw [show prDs pv (x :: L2) = (if hdC pv x = true then strL x.cls ++ [10] else []) ++ prD1 x ++ (if ftC x L2 = true then [69, 78, 68, 95, 86, 65, 82, 10] else []) ++ prDs (some x.cls) L2 from rfl] at HTX
      have HLX : Hid ((Y ++ ((if hdC pv x = true then strL x.cls ++ [10] else []) ++ prD1 x ++ (if ftC x L2 = true then [69, 78, 68, 95, 86, 65, 82, 10] else []) ++ prDs (some x.cls) L2) ++ RE).length ≤ 1099511627776) := by rw [HTX.out]; exact HL.out
      have e0 := HRV0.out.1.at HLEN.out hV (j := 0) (by decide) (v := .string x.cls) rfl
      have e1 := HRV0.out.1.at HLEN.out hV (j := 1) (by decide) (v := .string x.nm) rfl
      have e2 := HRV0.out.1.at HLEN.out hV (j := 2) (by decide) (v := .string x.ty) rfl
      have e3 := HRV0.out.1.at HLEN.out hV (j := 3) (by decide) (v := .bool x.arr) rfl
      have e4 := HRV0.out.1.at HLEN.out hV (j := 4) (by decide) (v := .int .i64 x.lo) rfl
      have e5 := HRV0.out.1.at HLEN.out hV (j := 5) (by decide) (v := .int .i64 x.hi) rfl
      have e6 := HRV0.out.1.at HLEN.out hV (j := 6) (by decide) (v := .slice vi.q vi.n vi.c) rfl
      have e7 := HRV0.out.1.at HLEN.out hV (j := 7) (by decide) (v := .int .i64 x.l) rfl
      have e8 := HRV0.out.1.at HLEN.out hV (j := 8) (by decide) (v := .int .i64 x.c) rfl
      rw [Nat.add_zero] at e0
      have ex2 : Ex (fun _ => False) wr (wr.alloc (.cells #[.string x.cls, .string x.nm, .string x.ty, .bool x.arr, .int .i64 x.lo, .int .i64 x.hi, .slice vi.q vi.n vi.c, .int .i64 x.l, .int .i64 x.c] 66)) := (Ex.refl _ _).alloc _
      have HP2 := hide (HP0.out.low ex2)
      have HBD3 := hide (BD.new HP0.out x vi)
      have HG3 := hide (HG0.out.trans HP2.out.2)
      have HIN3 := hide (hin.go HP2.out.2)
      have HDS3 := hide (hds2.go HP2.out.2)
      have HRV3 := hide (RV.go HRV0.out.1 HRV0.out.2 HP2.out.2)
      have HBP3 := hide (HBP0.out.go HP2.out.2)
      have HRW3 := hide (HRW0.out.go HP2.out.2)
      have HSS3 := hide (HSS0.out.go HP2.out.2)
      have HP3 := hide HP2.out.1
      clear hd hF2 hin hds2 hF3 hV HDS0 HF1 HGD HRV0 HBP0 HRW0 HSS0 HP0 HG0 ex2 HP2
      go_upto_region 6 with fail
      generalize wr.alloc (.cells #[.string x.cls, .string x.nm, .string x.ty, .bool x.arr, .int .i64 x.lo, .int .i64 x.hi, .slice vi.q vi.n vi.c, .int .i64 x.l, .int .i64 x.c] 66) = w3 at *
      clear e0 e1 e2 e3 e4 e5 e6 e7 e8
      generalize wr.heap.size = r5 at *
      go_cut [17, 35] (fun s17 s35 wx => s17 = .int .i64 k ∧ s35 = .bool (hdC pv x) ∧ Ex (fun _ => False) w3 wx)
      case first =>
        have k1 := HBP3.out.te.c1
        have t0 := HBD3.out.te.c0
        dsimp only at k1 t0
        rcases HPV.out with ⟨hk0, hpv⟩ | ⟨pc, Vp, hpv, hkp, hVp, hp0⟩
        · subst hk0
          subst hpv
          go_quiet (fail)
          go_wp2
          go_meet
          case rel => exact ⟨rfl, rfl, (Ex.refl _ _).drewN _⟩
        · obtain ⟨j, rfl⟩ : ∃ j, k = j + 1 := ⟨k - 1, by omega⟩
          subst hpv
          have hp1 := HRV3.out.1.at HLEN.out (show F[j]? = some Vp from hVp) (j := 0) (by decide) hp0
          rw [Nat.add_zero] at hp1
          have hj0 : (((j + 1 : Nat) : Int) == 0) = false := by simp; omega
          have hj1 : (((j : Int) + 1) == 0) = false := by simp; omega
          have hj2 : wrap64 ((j : Int) + 1 - 1) = (j : Int) := by rw [show (j : Int) + 1 - 1 = (j : Int) by omega]; exact wrj (by have := HVC.out; unfold maxLen at this; omega)
          have hj3 : IntKind.i64.wrap ((j : Int) + 1 - 1) = (j : Int) := by rw [show (j : Int) + 1 - 1 = (j : Int) by omega]; exact wrj2 (by have := HVC.out; unfold maxLen at this; omega)
          have hj4 : decide (j < vn) = true := decide_eq_true (by omega)
          have hj5 : wrap64 (j : Int) = (j : Int) := wrj (by have := HVC.out; unfold maxLen at this; omega)
          have hj6 : IntKind.i64.wrap (j : Int) = (j : Int) := wrj2 (by have := HVC.out; unfold maxLen at this; omega)
          have hj7 : decide ((j : Int) < (vn : Int)) = true := decide_eq_true (by omega)
          have hj8 : decide ((0 : Int) ≤ (j : Int)) = true := decide_eq_true (by omega)
          go_quiet (fail)
          go_wp2
          go_meet
          case rel => exact ⟨rfl, rfl, (Ex.refl _ _).drewN _⟩
      obtain ⟨rfl, rfl, hex4⟩ := hcut
      have hg := (HP3.out.low hex4).2
      have HP4 := hide (HP3.out.low hex4).1
      have HG4 := hide (HG3.out.trans hg)
      have HDS4 := hide (HDS3.out.go hg)
      have HRV4 := hide (RV.go HRV3.out.1 HRV3.out.2 hg)
      have HBP4 := hide (HBP3.out.go hg)
      have HRW4 := hide (HRW3.out.go hg)
      have HSS4 := hide (HSS3.out.go hg)
      have HBD4 := hide (HBD3.out.go hg)
      have HIN4 := hide (HIN3.out.go hg)
      clear hg hex4 HP3 HG3 HDS3 HRV3 HBP3 HRW3 HSS3 HBD3 HIN3
      go_upto_if 35 with fail
      go_cut [17] (fun s17 wx => s17 = .int .i64 k ∧ PR wx b (Y ++ (if hdC pv x = true then strL x.cls ++ [10] else [])) 0 ∧ PGo b wc wx)
      case first =>
        cases hhd : hdC pv x with
        | false =>
          go_wp2
          go_meet
          case rel => exact ⟨rfl, by rw [hhd, if_neg (by decide), List.append_nil]; exact HP4.out, PGo.refl _ _⟩
        | true =>
          have t0 := HBD4.out.te.c0
          dsimp only at t0
          have hz0 : (Y ++ (strL x.cls ++ [10])).length ≤ 1099511627776 := by
            have := HLX.out
            rw [hhd, if_pos rfl] at this
            simp only [List.length_append] at this ⊢
            omega
          have hz1 : ¬ 9223372036854775807 < x.cls.size + 1 := by
            have := hz0
            simp only [List.length_append, ← strL_len] at this
            omega
          have HT := hide (text_any wc b Y 0 (x.cls ++ ⟨#[10]⟩) HP4.out (by rw [strL_app]; have := hz0; rw [show strL ⟨#[10]⟩ = [10] from rfl]; simp only [List.length_append] at this ⊢; omega))
          rw [strL_app, show strL ⟨#[10]⟩ = [10] from rfl] at HT
          clear hz0
          go_wp2_with fail
          refine HT.out.mono ?_
          rintro e9 w5 ⟨rfl, hp9, hg9⟩
          have HP5 := hide hp9
          have HG5 := hide hg9
          clear hp9 hg9 HT t0 hz1
          simp only []
          go_wp2
          go_meet
          case rel => exact ⟨rfl, by rw [hhd, if_pos rfl]; exact HP5.out, HG5.out⟩
      obtain ⟨rfl, hp5, hg5⟩ := hcut
      obtain ⟨Y5, hY5⟩ : ∃ z, Y ++ (if hdC pv x = true then strL x.cls ++ [10] else []) = z := ⟨_, rfl⟩
      rw [hY5] at hp5
      have HP5 := hide hp5
      have HG5 := hide (HG4.out.trans hg5)
      have HDS5 := hide (HDS4.out.go hg5)
      have HRV5 := hide (RV.go HRV4.out.1 HRV4.out.2 hg5)
      have HBP5 := hide (HBP4.out.go hg5)
      have HRW5 := hide (HRW4.out.go hg5)
      have HSS5 := hide (HSS4.out.go hg5)
      have HBD5 := hide (HBD4.out.go hg5)
      have HIN5 := hide (HIN4.out.go hg5)
      have HTX5 : Hid (Y5 ++ (prD1 x ++ ((if ftC x L2 = true then [69, 78, 68, 95, 86, 65, 82, 10] else []) ++ prDs (some x.cls) L2 ++ RE)) = TT) := by
        have := HTX.out
        rw [← hY5]
        simp only [List.append_assoc] at this ⊢
        exact this
      have HL5 : Hid ((Y5 ++ prD1 x).length ≤ 1099511627776) := by
        have := HL.out
        rw [← HTX5.out] at this
        show (Y5 ++ prD1 x).length ≤ _
        simp only [List.length_append] at this ⊢
        omega
      clear hp5 hg5 hY5 HP4 HG4 HDS4 HRV4 HBP4 HRW4 HSS4 HBD4 HIN4 HTX HLX
      have t1 := HBD5.out.te.c1
      dsimp only at t1
      have hz0 : (Y5 ++ ([32, 32] ++ strL x.nm ++ [32, 58, 32])).length ≤ 1099511627776 := by
        have := HL5.out
        unfold prD1 at this
        simp only [List.length_append] at this ⊢
        omega
      have hz1 : ¬ 9223372036854775807 < 2 + x.nm.size := by
        have := hz0
        simp only [List.length_append, ← strL_len] at this
        omega
      have hz2 : ¬ 9223372036854775807 < 2 + x.nm.size + 3 := by
        have := hz0
        simp only [List.length_append, ← strL_len] at this
        omega
      have hz3 : ¬ 9223372036854775807 < (⟨#[32, 32]⟩ ++ x.nm : ByteArray).size + 3 := by rw [app_size]; exact hz2
      have HT := hide (text_any wc b Y5 0 (⟨#[32, 32]⟩ ++ x.nm ++ ⟨#[32, 58, 32]⟩) HP5.out (by rw [strL_app, strL_app]; have := hz0; rw [show strL ⟨#[32, 32]⟩ = [32, 32] from rfl, show strL ⟨#[32, 58, 32]⟩ = [32, 58, 32] from rfl]; simp only [List.length_append] at this ⊢; omega))
      rw [strL_app, strL_app, show strL ⟨#[32, 32]⟩ = [32, 32] from rfl, show strL ⟨#[32, 58, 32]⟩ = [32, 58, 32] from rfl] at HT
      clear hz0
      go_wp2_with fail
      refine HT.out.mono ?_
      rintro e9 w6 ⟨rfl, hp9, hg9⟩
      have HP6 := hide hp9
      have HG6 := hide (HG5.out.trans hg9)
      have HDS6 := hide (HDS5.out.go hg9)
      have HRV6 := hide (RV.go HRV5.out.1 HRV5.out.2 hg9)
      have HBP6 := hide (HBP5.out.go hg9)
      have HRW6 := hide (HRW5.out.go hg9)
      have HSS6 := hide (HSS5.out.go hg9)
      have HBD6 := hide (HBD5.out.go hg9)
      have HIN6 := hide (HIN5.out.go hg9)
      clear hp9 hg9 HT t1 hz1 hz2 hz3 HP5 HG5 HDS5 HRV5 HBP5 HRW5 HSS5 HBD5 HIN5
      simp only []
      have t3 := HBD6.out.te.c3
      dsimp only at t3
      go_upto_if 48 with fail
      clear t3
      obtain ⟨Y6, hY6⟩ : ∃ z, Y5 ++ ([32, 32] ++ strL x.nm ++ [32, 58, 32]) = z := ⟨_, rfl⟩
      rw [hY6] at HP6
      have HY6 := hide hY6
      clear hY6
      go_cut [17] (fun s17 wx => s17 = .int .i64 k ∧ PR wx b (Y6 ++ (if x.arr = true then [65, 82, 82, 65, 89, 32, 91] ++ decL x.lo.toNat ++ [46, 46] ++ decL x.hi.toNat ++ [93, 32, 79, 70, 32] else [])) 0 ∧ PGo b w6 wx)
      case first =>
        cases hhd : x.arr with
        | false =>
          go_wp2
          go_meet
          case rel => exact ⟨rfl, by rw [hhd, if_neg (by decide), List.append_nil]; exact HP6.out, PGo.refl _ _⟩
        | true =>
          have HN3 : Hid (∀ W, Calls Try.prog 30 #[.int .i64 x.lo] W fun e w' => e = .returned (.string (strOfNums (decL x.lo.toNat))) ∧ Ex (fun _ => False) W w') := fun W => by
            have z := HX.out.lo
            have := numeral_any x.lo.toNat W (by omega)
            rwa [Int.toNat_of_nonneg z.1] at this
          have HN8 : Hid (∀ W, Calls Try.prog 30 #[.int .i64 x.hi] W fun e w' => e = .returned (.string (strOfNums (decL x.hi.toNat))) ∧ Ex (fun _ => False) W w') := fun W => by
            have z := HX.out.hi
            have := numeral_any x.hi.toNat W (by omega)
            rwa [Int.toNat_of_nonneg z.1] at this
          have hz0 : (Y6 ++ ([65, 82, 82, 65, 89, 32, 91] ++ decL x.lo.toNat ++ [46, 46] ++ decL x.hi.toNat ++ [93, 32, 79, 70, 32])).length ≤ 1099511627776 := by
            have := HL5.out
            unfold prD1 at this
            rw [hhd, if_pos rfl] at this
            rw [← HY6.out]
            simp only [List.length_append] at this ⊢
            omega
          have hdl := decL_19 (v := x.lo.toNat) (by have := HX.out.lo; omega)
          have hdh := decL_19 (v := x.hi.toNat) (by have := HX.out.hi; omega)
          obtain ⟨lo, hlo⟩ : ∃ z, strOfNums (decL x.lo.toNat) = z := ⟨_, rfl⟩
          obtain ⟨hi, hhi⟩ : ∃ z, strOfNums (decL x.hi.toNat) = z := ⟨_, rfl⟩
          have hls : lo.size ≤ 19 := by rw [← hlo, str_size]; exact hdl
          have hhs : hi.size ≤ 19 := by rw [← hhi, str_size]; exact hdh
          have HSX : Hid (strL (⟨#[65, 82, 82, 65, 89, 32, 91]⟩ ++ lo ++ ⟨#[46, 46]⟩ ++ hi ++ ⟨#[93, 32, 79, 70, 32]⟩) = [65, 82, 82, 65, 89, 32, 91] ++ decL x.lo.toNat ++ [46, 46] ++ decL x.hi.toNat ++ [93, 32, 79, 70, 32]) := by show _ = _; rw [strL_app, strL_app, strL_app, strL_app, ← hlo, ← hhi, strL_of (byt_dec _), strL_of (byt_dec _)]; rfl
          rw [hlo] at HN3
          rw [hhi] at HN8
          have hq1 : ¬ 9223372036854775807 < 7 + lo.size := by omega
          have hq2 : ¬ 9223372036854775807 < 7 + lo.size + 2 := by omega
          have hq3 : ¬ 9223372036854775807 < 7 + lo.size + 2 + hi.size := by omega
          have hq4 : ¬ 9223372036854775807 < 7 + lo.size + 2 + hi.size + 5 := by omega
          have hq5 : ¬ 9223372036854775807 < (⟨#[65, 82, 82, 65, 89, 32, 91]⟩ ++ lo : ByteArray).size + 2 := by rw [app_size]; exact hq2
          have hq6 : ¬ 9223372036854775807 < (⟨#[65, 82, 82, 65, 89, 32, 91]⟩ ++ lo ++ ⟨#[46, 46]⟩ : ByteArray).size + hi.size := by rw [app_size, app_size]; exact hq3
          have hq7 : ¬ 9223372036854775807 < (⟨#[65, 82, 82, 65, 89, 32, 91]⟩ ++ lo ++ ⟨#[46, 46]⟩ ++ hi : ByteArray).size + 5 := by rw [app_size, app_size, app_size]; exact hq4
          have HZ0 := hide hz0
          clear hz0 hdl hdh hls hhs hlo hhi
          have HPd := hide (HP6.out.low ((Ex.refl (fun _ => False) w6).drew))
          have HGd := hide HPd.out.2
          have HBd := hide (HBD6.out.go HPd.out.2)
          go_upto_region 10 with fail
          refine wp_region_until (fun w6 => DK w6 r5 ⟨x.cls, x.nm, x.ty, x.arr, x.lo, x.hi, vi, x.l, x.c⟩) 11 (by kernel_rfl) (HBd.out.te) (fun hHeld => ?_)
          generalize w6.drew = wd at *
          refine wpAnyU_take (i := 0) (v := ?_) [11] rfl (by kernel_rfl) (by kernel_rfl) (by kernel_rfl) (by kernel_rfl) (fun _ _ _ h => h) (Or.inl ⟨by rfl, ?_⟩) (by assumption) ?_
          rotate_left
          · (intro w hSw; (try dsimp only at hSw); (skip); go_simp; try (with_reducible rfl))
          try simp only [Act.put, List.getElem_toArray, List.getElem_cons_zero, List.getElem_cons_succ, List.setIfInBounds_toArray, List.set_cons_zero, List.set_cons_succ]
          refine wpAnyU_take (i := 1) (v := ?_) [2, 3, 8, 11] rfl (by kernel_rfl) (by kernel_rfl) (by kernel_rfl) (by kernel_rfl) (fun _ _ _ h => h) (Or.inl ⟨by rfl, ?_⟩) (by assumption) ?_
          rotate_left
          · (intro w hSw; (try dsimp only at hSw); (skip); go_simp; try (with_reducible rfl))
          try simp only [Act.put, List.getElem_toArray, List.getElem_cons_zero, List.getElem_cons_succ, List.setIfInBounds_toArray, List.set_cons_zero, List.set_cons_succ]
          refine wpAnyU_take (i := 2) (v := ?_) [3, 8, 11] rfl (by kernel_rfl) (by kernel_rfl) (by kernel_rfl) (by kernel_rfl) (fun _ _ _ h => h) (Or.inl ⟨by rfl, ?_⟩) (by assumption) ?_
          rotate_left
          · (intro w hSw; (try dsimp only at hSw); (have k4 := hSw.c4; have k5 := hSw.c5; dsimp only at k4 k5); go_simp; try (with_reducible rfl))
          try simp only [Act.put, List.getElem_toArray, List.getElem_cons_zero, List.getElem_cons_succ, List.setIfInBounds_toArray, List.set_cons_zero, List.set_cons_succ]
          refine wpAnyU_take (i := 6) (v := ?_) [7, 8, 11] rfl (by kernel_rfl) (by kernel_rfl) (by kernel_rfl) (by kernel_rfl) (fun _ _ _ h => h) (Or.inl ⟨by rfl, ?_⟩) (by assumption) ?_
          rotate_left
          · (intro w hSw; (try dsimp only at hSw); (skip); go_simp; try (with_reducible rfl))
          try simp only [Act.put, List.getElem_toArray, List.getElem_cons_zero, List.getElem_cons_succ, List.setIfInBounds_toArray, List.set_cons_zero, List.set_cons_succ]
          refine wpAnyU_take (i := 7) (v := ?_) [8, 11] rfl (by kernel_rfl) (by kernel_rfl) (by kernel_rfl) (by kernel_rfl) (fun _ _ _ h => h) (Or.inl ⟨by rfl, ?_⟩) (by assumption) ?_
          rotate_left
          · (intro w hSw; (try dsimp only at hSw); (have k4 := hSw.c4; have k5 := hSw.c5; dsimp only at k4 k5); go_simp; try (with_reducible rfl))
          try simp only [Act.put, List.getElem_toArray, List.getElem_cons_zero, List.getElem_cons_succ, List.setIfInBounds_toArray, List.set_cons_zero, List.set_cons_succ]
          refine wpAnyU_ready (rs := [3]) (by kernel_rfl) (by simp) ?_
          refine (AllReadyU.cons rfl (fun K hK => ?_) AllReadyU.nil)
          · refine step_call rfl 30 _ (by simp [go_sem]) (HN3.out wd) ?_
            rintro e9 wn1 ⟨rfl, hex⟩
            have HPn1 := hide (HPd.out.1.low hex)
            have HGn1 := hide (HGd.out.trans HPn1.out.2)
            have HBn1 := hide (HBd.out.go HPn1.out.2)
            clear hex HPd HGd HBd
            refine ⟨_, rfl, ?_⟩
            refine hK.out _ _ ?_ (fun hHeld => ?_)
            · exact HBn1.out.te
            clear hK K
            try simp only [Act.put, List.getElem_toArray, List.getElem_cons_zero, List.getElem_cons_succ, List.setIfInBounds_toArray, List.set_cons_zero, List.set_cons_succ]
            refine wpAnyU_take (i := 4) (v := ?_) [5, 9, 10, 11] rfl (by kernel_rfl) (by kernel_rfl) (by kernel_rfl) (by kernel_rfl) (fun _ _ _ h => h) (Or.inl ⟨by rfl, ?_⟩) (by assumption) ?_
            rotate_left
            · (intro w hSw; (try dsimp only at hSw); (skip); go_simp; try (with_reducible rfl))
            try simp only [Act.put, List.getElem_toArray, List.getElem_cons_zero, List.getElem_cons_succ, List.setIfInBounds_toArray, List.set_cons_zero, List.set_cons_succ]
            refine wpAnyU_take (i := 5) (v := ?_) [9, 10, 11] rfl (by kernel_rfl) (by kernel_rfl) (by kernel_rfl) (by kernel_rfl) (fun _ _ _ h => h) (Or.inl ⟨by rfl, ?_⟩) (by assumption) ?_
            rotate_left
            · (intro w hSw; (try dsimp only at hSw); (skip); go_simp; try (with_reducible rfl))
            try simp only [Act.put, List.getElem_toArray, List.getElem_cons_zero, List.getElem_cons_succ, List.setIfInBounds_toArray, List.set_cons_zero, List.set_cons_succ]
            refine wpAnyU_ready (rs := [8]) (by kernel_rfl) (by simp) ?_
            refine (AllReadyU.cons rfl (fun K hK => ?_) AllReadyU.nil)
            · refine step_call rfl 30 _ (by simp [go_sem]) (HN8.out wn1) ?_
              rintro e9 wn2 ⟨rfl, hex⟩
              have HPn2 := hide (HPn1.out.1.low hex)
              have HGn2 := hide (HGn1.out.trans HPn2.out.2)
              have HBn2 := hide (HBn1.out.go HPn2.out.2)
              clear hex HPn1 HGn1 HBn1
              refine ⟨_, rfl, ?_⟩
              refine hK.out _ _ ?_ (fun hHeld => ?_)
              · exact HBn2.out.te
              clear hK K
              try simp only [Act.put, List.getElem_toArray, List.getElem_cons_zero, List.getElem_cons_succ, List.setIfInBounds_toArray, List.set_cons_zero, List.set_cons_succ]
              refine wpAnyU_take (i := 9) (v := ?_) [10, 11] rfl (by kernel_rfl) (by kernel_rfl) (by kernel_rfl) (by kernel_rfl) (fun _ _ _ h => h) (Or.inl ⟨by rfl, ?_⟩) (by assumption) ?_
              rotate_left
              · (intro w hSw; (try dsimp only at hSw); (skip); go_simp; try (with_reducible rfl))
              try simp only [Act.put, List.getElem_toArray, List.getElem_cons_zero, List.getElem_cons_succ, List.setIfInBounds_toArray, List.set_cons_zero, List.set_cons_succ]
              refine wpAnyU_take (i := 10) (v := ?_) [11] rfl (by kernel_rfl) (by kernel_rfl) (by kernel_rfl) (by kernel_rfl) (fun _ _ _ h => h) (Or.inl ⟨by rfl, ?_⟩) (by assumption) ?_
              rotate_left
              · (intro w hSw; (try dsimp only at hSw); (skip); go_simp; try (with_reducible rfl))
              try simp only [Act.put, List.getElem_toArray, List.getElem_cons_zero, List.getElem_cons_succ, List.setIfInBounds_toArray, List.set_cons_zero, List.set_cons_succ]
              refine wpAnyU_ready (rs := [11]) (by kernel_rfl) (by simp) ?_
              refine AllReadyU.last rfl (fun K hK => ?_)
              have HC := hide (text_any wn2 b Y6 0 (⟨#[65, 82, 82, 65, 89, 32, 91]⟩ ++ lo ++ ⟨#[46, 46]⟩ ++ hi ++ ⟨#[93, 32, 79, 70, 32]⟩) HPn2.out.1 (by have := HZ0.out; rw [HSX.out]; simp only [List.length_append] at this ⊢; omega))
              rw [HSX.out] at HC
              refine step_call rfl 29 _ (by simp [go_sem]) HC.out ?_
              rintro e9 w7 ⟨rfl, hp9, hg9⟩
              have HP7 := hide hp9
              have HG7 := hide (HGn2.out.trans hg9)
              clear hp9 hg9 HPn2 HGn2 HBn2 HC
              refine ⟨_, rfl, ?_⟩
              refine hK.out _ _ ?_
              clear hK K
              try simp only [Act.put, List.getElem_toArray, List.getElem_cons_zero, List.getElem_cons_succ, List.setIfInBounds_toArray, List.set_cons_zero, List.set_cons_succ]
              refine wpAnyU_done (by kernel_rfl) ?_ _
              try simp only []
              go_wp2
              go_meet
              case rel => exact ⟨rfl, by rw [hhd, if_pos rfl]; exact HP7.out, HG7.out⟩
      obtain ⟨rfl, hp7, hg7⟩ := hcut
      obtain ⟨Y7, hY7⟩ : ∃ z, Y6 ++ (if x.arr = true then [65, 82, 82, 65, 89, 32, 91] ++ decL x.lo.toNat ++ [46, 46] ++ decL x.hi.toNat ++ [93, 32, 79, 70, 32] else []) = z := ⟨_, rfl⟩
      rw [hY7] at hp7
      have HP7 := hide hp7
      have HG7 := hide (HG6.out.trans hg7)
      have HDS7 := hide (HDS6.out.go hg7)
      have HRV7 := hide (RV.go HRV6.out.1 HRV6.out.2 hg7)
      have HBP7 := hide (HBP6.out.go hg7)
      have HRW7 := hide (HRW6.out.go hg7)
      have HSS7 := hide (HSS6.out.go hg7)
      have HBD7 := hide (HBD6.out.go hg7)
      have HIN7 := hide (HIN6.out.go hg7)
      have HY7 : Hid (Y7 ++ (strL x.ty ++ (match x.ini with | none => [] | some e => [32, 58, 61, 32] ++ prE e 0) ++ [59, 10]) = Y5 ++ prD1 x) := by
        show _ = _
        rw [← hY7, ← HY6.out]
        unfold prD1
        cases x.ini <;> simp only [List.append_assoc]
      rw [← HY7.out] at HL5
      clear hp7 hg7 hY7 HY6 HP6 HG6 HDS6 HRV6 HBP6 HRW6 HSS6 HBD6 HIN6
      have t2 := HBD7.out.te.c2
      dsimp only at t2
      have HT := hide (text_any wc b Y7 0 x.ty HP7.out (by have := HL5.out; simp only [List.length_append] at this ⊢; omega))
      go_wp2_with fail
      refine HT.out.mono ?_
      rintro e9 w8 ⟨rfl, hp9, hg9⟩
      have HP8 := hide hp9
      have HG8 := hide (HG7.out.trans hg9)
      have HDS8 := hide (HDS7.out.go hg9)
      have HRV8 := hide (RV.go HRV7.out.1 HRV7.out.2 hg9)
      have HBP8 := hide (HBP7.out.go hg9)
      have HRW8 := hide (HRW7.out.go hg9)
      have HSS8 := hide (HSS7.out.go hg9)
      have HBD8 := hide (HBD7.out.go hg9)
      have HIN8 := hide (HIN7.out.go hg9)
      clear hp9 hg9 HT t2 HP7 HG7 HDS7 HRV7 HBP7 HRW7 HSS7 HBD7 HIN7
      simp only []
      have t6 := HBD8.out.te.c6
      dsimp only at t6
      go_upto_if 68 with fail
      clear t6
      go_cut [17] (fun s17 wx => s17 = .int .i64 k ∧ PR wx b (Y7 ++ strL x.ty ++ (match x.ini with | none => [] | some e => [32, 58, 61, 32] ++ prE e 0)) 0 ∧ PGo b w8 wx)
      case first =>
        have hin := HIN8.out
        cases hini : x.ini with
        | none =>
          rw [hini] at hin
          have hvi : vi = nl := hin
          subst hvi
          clear hin
          go_wp2
          go_meet
          case rel => exact ⟨rfl, by rw [hini]; simp only [List.append_nil]; exact HP8.out, PGo.refl _ _⟩
        | some ei =>
          rw [hini] at hin
          obtain ⟨gi, fi, hvi, hgi, hrc, het⟩ := hin
          subst hvi
          have HET := hide het
          clear het
          have t6 := HBD8.out.te.c6
          dsimp only at t6
          have hz0 : (Y7 ++ strL x.ty ++ [32, 58, 61, 32] ++ prE ei 0).length ≤ 1099511627776 := by
            have := HL5.out
            rw [hini] at this
            simp only [List.length_append] at this ⊢
            omega
          have HC := hide (pexpr_any ei (HX.out.ini ei hini) w8 b (Y7 ++ strL x.ty) 0 ⟨#[32, 58, 61, 32]⟩ fi 0 HP8.out HET.out hz0 (by decide) (by decide))
          rw [show strL ⟨#[32, 58, 61, 32]⟩ = [32, 58, 61, 32] from rfl] at HC
          unfold xV at HC
          clear hz0
          have c0 := hrc.c0
          have c1 := hrc.c1
          have c2 := hrc.c2
          have c3 := hrc.c3
          have c4 := hrc.c4
          have c5 := hrc.c5
          have c6 := hrc.c6
          go_wp2_with fail
          refine HC.out.mono ?_
          rintro e9 w9 ⟨rfl, hp9, hg9⟩
          have HP9 := hide hp9
          have HG9 := hide hg9
          clear hp9 hg9 HC t6 c0 c1 c2 c3 c4 c5 c6
          simp only []
          go_wp2
          go_meet
          case rel => exact ⟨rfl, by rw [hini]; simp only [← List.append_assoc]; exact HP9.out, HG9.out⟩
      obtain ⟨rfl, hp9, hg9⟩ := hcut
      obtain ⟨Y9, hY9⟩ : ∃ z, Y7 ++ strL x.ty ++ (match x.ini with | none => [] | some e => [32, 58, 61, 32] ++ prE e 0) = z := ⟨_, rfl⟩
      rw [hY9] at hp9
      have HP9 := hide hp9
      have HG9 := hide (HG8.out.trans hg9)
      have HDS9 := hide (HDS8.out.go hg9)
      have HRV9 := hide (RV.go HRV8.out.1 HRV8.out.2 hg9)
      have HBP9 := hide (HBP8.out.go hg9)
      have HRW9 := hide (HRW8.out.go hg9)
      have HSS9 := hide (HSS8.out.go hg9)
      have HBD9 := hide (HBD8.out.go hg9)
      have HIN9 := hide (HIN8.out.go hg9)
      have HY9 : Hid (Y9 ++ [59, 10] = Y5 ++ prD1 x) := by
        show _ = _
        rw [← hY9, ← HY7.out]
        simp only [List.append_assoc]
      have HL9 : Hid ((Y9 ++ [59, 10]).length ≤ 1099511627776) := by rw [HY9.out, ← HY7.out]; exact HL5.out
      clear hp9 hg9 hY9 HY7 HP8 HG8 HDS8 HRV8 HBP8 HRW8 HSS8 HBD8 HIN8 HL5
      have HT := hide (text_any wc b Y9 0 ⟨#[59, 10]⟩ HP9.out (by have := HL9.out; rw [show strL ⟨#[59, 10]⟩ = [59, 10] from rfl]; simp only [List.length_append] at this ⊢; omega))
      rw [show strL ⟨#[59, 10]⟩ = [59, 10] from rfl, HY9.out] at HT
      go_wp2_with fail
      refine HT.out.mono ?_
      rintro e9 w10 ⟨rfl, hp9, hg9⟩
      have HP10 := hide hp9
      have HG10 := hide (HG9.out.trans hg9)
      have HDS10 := hide (HDS9.out.go hg9)
      have HRV10 := hide (RV.go HRV9.out.1 HRV9.out.2 hg9)
      have HBP10 := hide (HBP9.out.go hg9)
      have HRW10 := hide (HRW9.out.go hg9)
      have HSS10 := hide (HSS9.out.go hg9)
      have HBD10 := hide (HBD9.out.go hg9)
      clear hp9 hg9 HT HP9 HG9 HDS9 HRV9 HBP9 HRW9 HSS9 HBD9 HIN9 HY9 HL9
      simp only []
      go_upto_region 15 with fail
      go_cut [17, 94] (fun s17 s94 wx => s17 = .int .i64 k ∧ s94 = .bool (ftC x L2) ∧ Ex (fun _ => False) w10 wx)
      case first =>
        have k1 := HBP10.out.te.c1
        have t0 := HBD10.out.te.c0
        dsimp only at k1 t0
        rcases HDS10.out.hd with ⟨z1, z2⟩ | ⟨y, vj, F3, L3, hL3, hF4, _, _⟩
        · have hvn : vn = k + 1 := by
            have := HF3.out
            rw [z2] at this
            have := List.drop_eq_nil_iff.1 this
            have := HV.out
            omega
          subst hvn
          subst z1
          have hu1 : wrap64 ((k : Int) + 1) = ((k + 1 : Nat) : Int) := wrk6 (by have := HVC.out; unfold maxLen at this; omega)
          go_quiet (fail)
          go_wp2
          go_meet
          case rel => exact ⟨rfl, rfl, (Ex.refl _ _).drewN _⟩
        · have hV1 : F[k + 1]? = some [.string y.cls, .string y.nm, .string y.ty, .bool y.arr, .int .i64 y.lo, .int .i64 y.hi, .slice vj.q vj.n vj.c, .int .i64 y.l, .int .i64 y.c] := by
            have := HF3.out
            rw [hF4] at this
            have q := congrArg (fun l => l[0]?) this
            simpa [List.getElem?_drop] using q
          subst hL3
          have hk1 : k + 1 < vn := by
            rw [HV.out]
            exact (List.getElem?_eq_some_iff.1 hV1).1
          have hp1 := HRV10.out.1.at HLEN.out hV1 (j := 0) (by decide) (v := .string y.cls) rfl
          rw [Nat.add_zero] at hp1
          have hu1 : wrap64 ((k : Int) + 1) = ((k + 1 : Nat) : Int) := wrk6 (by have := HVC.out; unfold maxLen at this; omega)
          have hu2 : (((k + 1 : Nat) : Int) == (vn : Int)) = false := by simp; omega
          have hu3 : (((k : Int) + 1) == (vn : Int)) = false := by simp; omega
          have hu4 : decide (k + 1 < vn) = true := decide_eq_true hk1
          have hu5 : decide (((k + 1 : Nat) : Int) < (vn : Int)) = true := decide_eq_true (by omega)
          have hu6 : decide ((k : Int) + 1 < (vn : Int)) = true := decide_eq_true (by omega)
          go_quiet (fail)
          go_wp2
          go_meet
          case rel => exact ⟨rfl, rfl, (Ex.refl _ _).drewN _⟩
      obtain ⟨rfl, rfl, hex4⟩ := hcut
      have hg := (HP10.out.low hex4).2
      have HP11 := hide (HP10.out.low hex4).1
      have HG11 := hide (HG10.out.trans hg)
      have HDS11 := hide (HDS10.out.go hg)
      have HRV11 := hide (RV.go HRV10.out.1 HRV10.out.2 hg)
      have HBP11 := hide (HBP10.out.go hg)
      have HRW11 := hide (HRW10.out.go hg)
      have HSS11 := hide (HSS10.out.go hg)
      clear hg hex4 HP10 HG10 HDS10 HRV10 HBP10 HRW10 HSS10 HBD10
      go_upto_if 94 with fail
      have HPV2 : Hid (PVK F (k + 1) (some x.cls)) := .inr ⟨x.cls, _, rfl, Nat.succ_pos _, HVK.out, rfl⟩
      cases hhd : ftC x L2 with
      | false =>
        have HTX2 : Hid (Y5 ++ prD1 x ++ prDs (some x.cls) L2 ++ RE = TT) := by
          show _ = _
          rw [← HTX5.out, hhd, if_neg (by decide)]
          simp only [List.append_assoc, List.nil_append]
        clear HTX5 HPV
        go_wp2
        go_roundw
        case rel => exact ⟨k + 1, L2, F2, _, some x.cls, by go_num, by omega, HP11.out, HG11.out, HDS11.out, HF3.out, HRV11.out, HBP11.out, HRW11.out, HSS11.out, HGD2.out, HPV2.out, HTX2.out⟩
        case measure => exact meas_lt (i := k) (by go_num) rfl hlt
      | true =>
        have HTX2 : Hid (Y5 ++ prD1 x ++ [69, 78, 68, 95, 86, 65, 82, 10] ++ prDs (some x.cls) L2 ++ RE = TT) := by
          show _ = _
          rw [← HTX5.out, hhd, if_pos rfl]
          simp only [List.append_assoc]
        have HT := hide (text_any wc b (Y5 ++ prD1 x) 0 ⟨#[69, 78, 68, 95, 86, 65, 82, 10]⟩ HP11.out (by
          have := HL.out
          rw [← HTX2.out] at this
          rw [show strL ⟨#[69, 78, 68, 95, 86, 65, 82, 10]⟩ = [69, 78, 68, 95, 86, 65, 82, 10] from rfl]
          simp only [List.length_append] at this ⊢
          omega))
        rw [show strL ⟨#[69, 78, 68, 95, 86, 65, 82, 10]⟩ = [69, 78, 68, 95, 86, 65, 82, 10] from rfl] at HT
        clear HTX5 HPV
        go_wp2_with fail
        refine HT.out.mono ?_
        rintro e9 w12 ⟨rfl, hp12, hg12⟩
        have HP12 := hide hp12
        have HG12 := hide (HG11.out.trans hg12)
        have HDS12 := hide (HDS11.out.go hg12)
        have HRV12 := hide (RV.go HRV11.out.1 HRV11.out.2 hg12)
        have HBP12 := hide (HBP11.out.go hg12)
        have HRW12 := hide (HRW11.out.go hg12)
        have HSS12 := hide (HSS11.out.go hg12)
        clear hp12 hg12 HP11 HG11 HDS11 HRV11 HBP11 HRW11 HSS11 HT
        simp only []
        go_wp2
        go_roundw
        case rel => exact ⟨k + 1, L2, F2, _, some x.cls, by go_num, by omega, HP12.out, HG12.out, HDS12.out, HF3.out, HRV12.out, HBP12.out, HRW12.out, HSS12.out, HGD2.out, HPV2.out, HTX2.out⟩
        case measure => exact meas_lt (i := k) (by go_num) rfl hlt
    · obtain rfl : k = vn := by omega
      have d1 : decide ((k : Int) < (k : Int)) = false := decide_eq_false (by omega)
      have hF0 : F1 = [] := by rw [← HF1.out, HV.out]; exact List.drop_length
      have hL0 : L1 = [] := by
        rcases HDS0.out.hd with ⟨z1, z2⟩ | ⟨x, v, F2, L2, hL2, hF2, _⟩
        · exact z1
        · rw [hF0] at hF2; cases hF2
      have HY : Hid (Y ++ RE = TT) := by
        have := HTX.out
        rw [hL0, show prDs pv [] = [] by cases pv <;> rfl, List.append_nil] at this
        exact this
      have HLX : Hid ((Y ++ RE).length ≤ 1099511627776) := by rw [HY.out]; exact HL.out
      rw [← HRE.out] at HY HLX
      have k2 := HBP0.out.te.c2
      clear hF0 hL0 HTX HDS0 HF1 HRV0 HGD HPV HRE
      have HC : Hid (Calls Try.prog 32 #[.pointer (some ⟨b, 0, none⟩), slV vb] wr (PRPost wr b (Y ++ pr A 1 true) 0)) := HLS.out wr b Y 0 vb G HP0.out HRW0.out HSS0.out (by have := HLX.out; show (Y ++ pr A 1 true).length ≤ _; simp only [List.length_append] at this ⊢; omega) (by have := HSD.out; omega)
      unfold slV at HC
      go_upto_region 18 with fail
      go_wp2_with fail
      refine HC.out.mono ?_
      rintro e9 w4 ⟨rfl, hp9, hg9⟩
      have HP4 := hide hp9
      have HG4 := hide (HG0.out.trans hg9)
      clear hp9 hg9 HP0 HG0 HC HRW0 HSS0 HBP0 k2
      simp only []
      have HT := hide (text_any w4 b (Y ++ pr A 1 true) 0 ⟨#[69, 78, 68, 95, 80, 82, 79, 71, 82, 65, 77, 10]⟩ HP4.out (by have := HLX.out; rw [show strL ⟨#[69, 78, 68, 95, 80, 82, 79, 71, 82, 65, 77, 10]⟩ = [69, 78, 68, 95, 80, 82, 79, 71, 82, 65, 77, 10] from rfl]; simp only [List.length_append] at this ⊢; omega))
      rw [show strL ⟨#[69, 78, 68, 95, 80, 82, 79, 71, 82, 65, 77, 10]⟩ = [69, 78, 68, 95, 80, 82, 79, 71, 82, 65, 77, 10] from rfl, List.append_assoc, HY.out] at HT
      go_upto_region 19 with fail
      go_wp2_with fail
      refine HT.out.mono ?_
      rintro e9 w9 ⟨rfl, hp9, hg9⟩
      have HP9 := hide hp9
      have HG9 := hide (HG4.out.trans hg9)
      clear hp9 hg9 HP4 HG4 HT
      simp only []
      obtain ⟨a, c, hc, hs, ha, hcc⟩ := HP9.out.src
      have HF := hide (tx_fin HE0.out HPW.out HG9.out hs ha hcc)
      clear hs ha hcc HP9 HG9
      go_wp2
      exact bodyPost_ret (by simp [results, Try.results11]) rfl HF.out
end Go.Proofs.Qxb6500774a
