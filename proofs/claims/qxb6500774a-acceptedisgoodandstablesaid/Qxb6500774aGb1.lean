import Derived.Test.Qxb6500774aGb0
namespace Go.Proofs.Qxb6500774a
open Go.RowKit
set_option linter.unusedVariables false
set_option linter.unusedSimpArgs false

set_option linter.unusedSimpArgs false in
set_option linter.unusedVariables false in
set_option maxRecDepth 100000 in
set_option maxHeartbeats 32000000 in
theorem good_x (e : E) (hg : gE e) (hsz : sz e ≤ 4611686018427387904) (KS : List XP) (w : World) (f : XP) (het : ET w ND e f) (hrw : RW w ND (KS.map xL) ⟨f.q, f.ql, f.qc⟩) (hks : ksOf w e f KS) (hcall : ∀ (i : Nat) f1, KS[i]? = some f1 → ∀ W, Ex (fun _ => False) w W → Calls Try.prog 27 #[xV f1] W (RdB W true)) :
    Calls Try.prog 27 #[xV f] w (RdB w true) := by
  have HG := hide hg
  have HSZ := hide hsz
  have HET := hide het
  have HRW := hide hrw
  have HKS := hide hks
  have HC := hide hcall
  have HN : Hid (f.ql = KS.length) := by have := hrw.1; rw [List.length_map] at this; exact this
  have HCP := hide hrw.2.1
  clear hg hsz het hrw hks hcall
  have ex1 : Ex (fun _ => False) w (w.alloc (xO f)) := (Ex.refl _ _).alloc _
  have HE := hide ex1
  have HK := hide (XK.new w f)
  obtain ⟨w1, hw1⟩ : ∃ x, w.alloc (xO f) = x := ⟨_, rfl⟩
  rw [hw1] at HE HK
  have HW1 := hide hw1
  unfold xO at HW1
  clear hw1 ex1
  unfold xV
  go_enter Try.func27, Try.ntmps27
  go_upto_region 1 with fail
  rw [HW1.out]
  generalize w.heap.size = r1 at *
  clear HW1
  have k4 := HK.out.c4
  go_wp2_with fail
  clear k4
  obtain ⟨n, hn⟩ : ∃ n, f.ql = n := ⟨_, rfl⟩
  rw [hn] at HN HCP HRW ⊢
  have HNF := hide hn
  clear hn
  go_loopw [9] (fun s9 wr => ∃ (k : Nat), k ≤ n ∧ s9 = .int .i64 k ∧ Ex (fun _ => False) w1 wr) (fun s9 _ => n - (intOf s9).toNat)
  case atStart => exact ⟨0, Nat.zero_le _, rfl, Ex.refl _ _⟩
  case round =>
    obtain ⟨k, hk, rfl, hex⟩ := hrel
    have HX := hide hex
    clear hex
    by_cases hlt : k < n
    · have d1 : decide ((k : Int) < (n : Int)) = true := decide_eq_true (by omega)
      have d1n : decide (k < n) = true := decide_eq_true hlt
      have hwk : IntKind.i64.wrap ((k : Int) + 1) = ((k + 1 : Nat) : Int) := wrk (by have := HCP.out; unfold maxLen at this; omega)
      obtain ⟨f1, hf1⟩ : ∃ f1, KS[k]? = some f1 := ⟨_, List.getElem?_eq_getElem (by rw [← HN.out]; exact hlt)⟩
      obtain ⟨g, hq, _, _⟩ := HRW.out.2.2 (show 0 < n by omega)
      dsimp only at hq
      rw [hq] at HRW ⊢
      have HRk := hide ((HRW.out.low (HE.out.trans HX.out)).cell hf1)
      have e0 := (HRk.out).1.at (xL_len KS) (HRk.out).2 (j := 0) (by decide) (v := .int .i64 f1.k) rfl
      have e1 := (HRk.out).1.at (xL_len KS) (HRk.out).2 (j := 1) (by decide) (v := .string f1.x) rfl
      have e2 := (HRk.out).1.at (xL_len KS) (HRk.out).2 (j := 2) (by decide) (v := .int .i64 f1.n) rfl
      have e3 := (HRk.out).1.at (xL_len KS) (HRk.out).2 (j := 3) (by decide) (v := .string f1.m) rfl
      have e4 := (HRk.out).1.at (xL_len KS) (HRk.out).2 (j := 4) (by decide) (v := .slice f1.q f1.ql f1.qc) rfl
      have e5 := (HRk.out).1.at (xL_len KS) (HRk.out).2 (j := 5) (by decide) (v := .int .i64 f1.li) rfl
      have e6 := (HRk.out).1.at (xL_len KS) (HRk.out).2 (j := 6) (by decide) (v := .int .i64 f1.co) rfl
      rw [Nat.add_zero] at e0
      have HCk := hide (HC.out k f1 hf1)
      have ex2 : Ex (fun _ => False) wr (wr.alloc (xO f1)) := (Ex.refl _ _).alloc _
      have HE2 := hide (HX.out.trans ex2)
      have HB2 := hide (XK.new wr f1)
      clear hf1 hq ex2 HX HRk
      obtain ⟨w2, hw2⟩ : ∃ x, wr.alloc (xO f1) = x := ⟨_, rfl⟩
      rw [hw2] at HE2 HB2
      have HW2 := hide hw2
      unfold xO at HW2
      clear hw2
      go_upto_region 4 with fail
      rw [HW2.out]
      clear HW2 e0 e1 e2 e3 e4 e5 e6
      generalize wr.heap.size = r4 at *
      have t0 := HB2.out.c0
      have t1 := HB2.out.c1
      have t2 := HB2.out.c2
      have t3 := HB2.out.c3
      have t4 := HB2.out.c4
      have t5 := HB2.out.c5
      have t6 := HB2.out.c6
      have HCW := hide (HCk.out w2 (HE.out.trans HE2.out))
      unfold xV at HCW
      go_wp2_with (go_at_call 27; refine HCW.out.mono ?_; rintro e9 w3 ⟨rfl, hex3⟩; have HE3 := hide (HE2.out.trans hex3); clear hex3 HE2 HB2 t0 t1 t2 t3 t4 t5 t6 HCW; simp only [])
      go_roundw
      case rel => exact ⟨k + 1, by omega, by go_num, HE3.out⟩
      case measure => simp [intOf]; omega
    · obtain rfl : k = n := by omega
      have d1 : decide ((k : Int) < (k : Int)) = false := decide_eq_false (by omega)
      have HF := hide (HE.out.trans HX.out)
      have HKf := hide (HK.out.keep HX.out (fun z => z))
      have HRf := hide (HRW.out.low HF.out)
      rw [← HNF.out] at HRf
      have hnb : nb.toList.isEmpty = true := by rw [ByteArray.toList_eq]; rfl
      have hnb2 : (nb.toList == []) = true := by rw [ByteArray.toList_eq]; rfl
      clear HX HC HCP hk
      cases e with
      | num v l c =>
        obtain rfl : f = _ := HET.out
        obtain rfl : 0 = k := HNF.out
        have dv : decide ((0 : Int) ≤ v) = true := decide_eq_true HG.out.1
        have k0 := HKf.out.c0
        dsimp only at k0
        have k1 := HKf.out.c1
        dsimp only at k1
        have k2 := HKf.out.c2
        dsimp only at k2
        have k3 := HKf.out.c3
        dsimp only at k3
        have k4 := HKf.out.c4
        dsimp only at k4
        go_wp2
        go_ret
        exact ⟨rfl, HF.out⟩
      | tim v l c =>
        obtain rfl : f = _ := HET.out
        obtain rfl : 0 = k := HNF.out
        have dv : decide ((0 : Int) ≤ v) = true := decide_eq_true HG.out.1
        have k0 := HKf.out.c0
        dsimp only at k0
        have k1 := HKf.out.c1
        dsimp only at k1
        have k2 := HKf.out.c2
        dsimp only at k2
        have k3 := HKf.out.c3
        dsimp only at k3
        have k4 := HKf.out.c4
        dsimp only at k4
        go_wp2
        go_ret
        exact ⟨rfl, HF.out⟩
      | bol v l c =>
        obtain rfl : f = _ := HET.out
        obtain rfl : 0 = k := HNF.out
        rcases HG.out with hv | hv
        · subst hv
          have k0 := HKf.out.c0
          dsimp only at k0
          have k1 := HKf.out.c1
          dsimp only at k1
          have k2 := HKf.out.c2
          dsimp only at k2
          have k3 := HKf.out.c3
          dsimp only at k3
          have k4 := HKf.out.c4
          dsimp only at k4
          go_wp2
          go_ret
          exact ⟨rfl, HF.out⟩
        · subst hv
          have k0 := HKf.out.c0
          dsimp only at k0
          have k1 := HKf.out.c1
          dsimp only at k1
          have k2 := HKf.out.c2
          dsimp only at k2
          have k3 := HKf.out.c3
          dsimp only at k3
          have k4 := HKf.out.c4
          dsimp only at k4
          go_wp2
          go_ret
          exact ⟨rfl, HF.out⟩
      | nm x l c =>
        obtain rfl : f = _ := HET.out
        obtain rfl : 0 = k := HNF.out
        have HGN := hide (fun W => goodName_yes W x HG.out (by have := HSZ.out; simp only [sz] at this; rw [← strL_len] at this; exact this))
        have k0 := HKf.out.c0
        dsimp only at k0
        have k1 := HKf.out.c1
        dsimp only at k1
        have k2 := HKf.out.c2
        dsimp only at k2
        have k3 := HKf.out.c3
        dsimp only at k3
        have k4 := HKf.out.c4
        dsimp only at k4
        go_wp2_with (go_at_call 26; refine (HGN.out _).mono ?_; rintro e9 w9 ⟨rfl, hw9⟩; (have hw9' := hw9.symm; subst hw9'); simp only [])
        go_ret
        exact ⟨rfl, HF.out⟩
      | fld e x l c =>
        obtain ⟨f1, hks, het1⟩ := HKS.out
        obtain ⟨g, f1', hf, _, _, _⟩ := HET.out
        subst hf
        obtain rfl : 1 = k := HNF.out
        have HGN := hide (fun W => goodName_yes W x HG.out.2.1 (by have := HSZ.out; simp only [sz] at this; rw [← strL_len] at this; omega))
        have HIP := hide (fun W => isPlace_any W f1 true (het1.pl HG.out.2.2))
        have HRk := hide (HRf.out.cell (k := 0) (f := f1) (by rw [hks]; rfl))
        have e0 := (HRk.out).1.at (xL_len KS) (HRk.out).2 (j := 0) (by decide) (v := .int .i64 f1.k) rfl
        have e1 := (HRk.out).1.at (xL_len KS) (HRk.out).2 (j := 1) (by decide) (v := .string f1.x) rfl
        have e2 := (HRk.out).1.at (xL_len KS) (HRk.out).2 (j := 2) (by decide) (v := .int .i64 f1.n) rfl
        have e3 := (HRk.out).1.at (xL_len KS) (HRk.out).2 (j := 3) (by decide) (v := .string f1.m) rfl
        have e4 := (HRk.out).1.at (xL_len KS) (HRk.out).2 (j := 4) (by decide) (v := .slice f1.q f1.ql f1.qc) rfl
        have e5 := (HRk.out).1.at (xL_len KS) (HRk.out).2 (j := 5) (by decide) (v := .int .i64 f1.li) rfl
        have e6 := (HRk.out).1.at (xL_len KS) (HRk.out).2 (j := 6) (by decide) (v := .int .i64 f1.co) rfl
        rw [Nat.add_zero] at e0
        simp only [Nat.zero_mul, Nat.zero_add] at e0 e1 e2 e3 e4 e5 e6
        clear hks het1 HRk
        have k0 := HKf.out.c0
        dsimp only at k0
        have k1 := HKf.out.c1
        dsimp only at k1
        have k2 := HKf.out.c2
        dsimp only at k2
        have k3 := HKf.out.c3
        dsimp only at k3
        have k4 := HKf.out.c4
        dsimp only at k4
        unfold xV at HIP
        go_wp2_with (first | (go_at_call 26; refine (HGN.out _).mono ?_; rintro e9 w9 ⟨rfl, hw9⟩; (have hw9' := hw9.symm; subst hw9'); simp only []) | (go_at_call 54; refine (HIP.out _).mono ?_; rintro e9 w9 ⟨rfl, hex9⟩; have HF9 := hide (HF.out.trans hex9); clear hex9; simp only []))
        go_ret
        exact ⟨rfl, HF9.out⟩
      | idx e i l c =>
        obtain ⟨f1, f2, hks, het1, _⟩ := HKS.out
        obtain ⟨g, f1', f2', hf, _, _, _⟩ := HET.out
        subst hf
        obtain rfl : 2 = k := HNF.out
        have HIP := hide (fun W => isPlace_any W f1 true (het1.pl HG.out.2.2))
        have HRk := hide (HRf.out.cell (k := 0) (f := f1) (by rw [hks]; rfl))
        have e0 := (HRk.out).1.at (xL_len KS) (HRk.out).2 (j := 0) (by decide) (v := .int .i64 f1.k) rfl
        have e1 := (HRk.out).1.at (xL_len KS) (HRk.out).2 (j := 1) (by decide) (v := .string f1.x) rfl
        have e2 := (HRk.out).1.at (xL_len KS) (HRk.out).2 (j := 2) (by decide) (v := .int .i64 f1.n) rfl
        have e3 := (HRk.out).1.at (xL_len KS) (HRk.out).2 (j := 3) (by decide) (v := .string f1.m) rfl
        have e4 := (HRk.out).1.at (xL_len KS) (HRk.out).2 (j := 4) (by decide) (v := .slice f1.q f1.ql f1.qc) rfl
        have e5 := (HRk.out).1.at (xL_len KS) (HRk.out).2 (j := 5) (by decide) (v := .int .i64 f1.li) rfl
        have e6 := (HRk.out).1.at (xL_len KS) (HRk.out).2 (j := 6) (by decide) (v := .int .i64 f1.co) rfl
        rw [Nat.add_zero] at e0
        simp only [Nat.zero_mul, Nat.zero_add] at e0 e1 e2 e3 e4 e5 e6
        clear hks het1 HRk
        have k0 := HKf.out.c0
        dsimp only at k0
        have k1 := HKf.out.c1
        dsimp only at k1
        have k2 := HKf.out.c2
        dsimp only at k2
        have k3 := HKf.out.c3
        dsimp only at k3
        have k4 := HKf.out.c4
        dsimp only at k4
        unfold xV at HIP
        go_wp2_with (go_at_call 54; refine (HIP.out _).mono ?_; rintro e9 w9 ⟨rfl, hex9⟩; have HF9 := hide (HF.out.trans hex9); clear hex9; simp only [])
        go_ret
        exact ⟨rfl, HF9.out⟩
      | un op e l c =>
        obtain ⟨g, f1', hf, _, _, _⟩ := HET.out
        subst hf
        obtain rfl : 1 = k := HNF.out
        obtain ⟨b1, hb1⟩ : ∃ d, (op.toList == [78, 79, 84]) = d := ⟨_, rfl⟩
        obtain ⟨b2, hb2⟩ : ∃ d, (op.toList == [45]) = d := ⟨_, rfl⟩
        have HBB : Hid (b1 = true ∨ b2 = true) := by
          rcases HG.out.2 with z | z
          · left; rw [← hb1, z, tl_NOT]; rfl
          · right; rw [← hb2, z, tl_MIN]; rfl
        have k0 := HKf.out.c0
        dsimp only at k0
        have k1 := HKf.out.c1
        dsimp only at k1
        have k2 := HKf.out.c2
        dsimp only at k2
        have k3 := HKf.out.c3
        dsimp only at k3
        have k4 := HKf.out.c4
        dsimp only at k4
        cases b1 <;> cases b2
        · rcases HBB.out with z | z <;> cases z
        all_goals
          go_wp2
          go_ret
          exact ⟨rfl, HF.out⟩
      | bin op a b l c =>
        obtain ⟨g, f1', f2', hf, _, _, _⟩ := HET.out
        subst hf
        obtain rfl : 2 = k := HNF.out
        have HLV := hide (fun W => level_any W op)
        obtain ⟨pw, hpw⟩ : ∃ p, powP op.toList = p := ⟨_, rfl⟩
        have HP : Hid (0 < pw) := by rw [← hpw]; exact HG.out.2.2
        rw [hpw] at HLV
        have dp : decide ((0 : Int) < pw) = true := decide_eq_true HP.out
        clear hpw
        have k0 := HKf.out.c0
        dsimp only at k0
        have k1 := HKf.out.c1
        dsimp only at k1
        have k2 := HKf.out.c2
        dsimp only at k2
        have k3 := HKf.out.c3
        dsimp only at k3
        have k4 := HKf.out.c4
        dsimp only at k4
        go_wp2_with (go_at_call 65; refine (HLV.out _).mono ?_; rintro e9 w9 ⟨rfl, hw9⟩; (have hw9' := hw9.symm; subst hw9'); simp only [])
        go_ret
        exact ⟨rfl, HF.out⟩
set_option linter.unusedSimpArgs false in
set_option linter.unusedVariables false in
set_option maxRecDepth 100000 in
set_option maxHeartbeats 32000000 in
theorem goodE : ∀ (e : E), gE e → sz e ≤ 4611686018427387904 → GEX e
  | .num v l c, hg, hs => fun w f h => by
    obtain ⟨KS, h1, h2⟩ := h.ks
    exact good_x _ hg hs KS w f h h1 h2 (fun i f1 hf => by rw [show KS = [] from h2] at hf; simp at hf)
  | .tim v l c, hg, hs => fun w f h => by
    obtain ⟨KS, h1, h2⟩ := h.ks
    exact good_x _ hg hs KS w f h h1 h2 (fun i f1 hf => by rw [show KS = [] from h2] at hf; simp at hf)
  | .bol v l c, hg, hs => fun w f h => by
    obtain ⟨KS, h1, h2⟩ := h.ks
    exact good_x _ hg hs KS w f h h1 h2 (fun i f1 hf => by rw [show KS = [] from h2] at hf; simp at hf)
  | .nm x l c, hg, hs => fun w f h => by
    obtain ⟨KS, h1, h2⟩ := h.ks
    exact good_x _ hg hs KS w f h h1 h2 (fun i f1 hf => by rw [show KS = [] from h2] at hf; simp at hf)
  | .fld e x l c, hg, hs => fun w f h => by
    have ih := goodE e hg.1 (by simp only [sz] at hs; omega)
    obtain ⟨KS, h1, h2⟩ := h.ks
    obtain ⟨g1, q1, q2⟩ := id h2
    exact good_x _ hg hs KS w f h h1 h2 (fun i f1 hf => by
      rw [q1] at hf
      match i, hf with
      | 0, hf => injection hf with hf; subst hf; exact fun W hW => ih W _ (q2.low hW)
      | i + 1, hf => simp at hf)
  | .un op e l c, hg, hs => fun w f h => by
    have ih := goodE e hg.1 (by simp only [sz] at hs; omega)
    obtain ⟨KS, h1, h2⟩ := h.ks
    obtain ⟨g1, q1, q2⟩ := id h2
    exact good_x _ hg hs KS w f h h1 h2 (fun i f1 hf => by
      rw [q1] at hf
      match i, hf with
      | 0, hf => injection hf with hf; subst hf; exact fun W hW => ih W _ (q2.low hW)
      | i + 1, hf => simp at hf)
  | .idx e j l c, hg, hs => fun w f h => by
    have ih := goodE e hg.1 (by simp only [sz] at hs; omega)
    have ih2 := goodE j hg.2.1 (by simp only [sz] at hs; omega)
    obtain ⟨KS, h1, h2⟩ := h.ks
    obtain ⟨g1, g2, q1, q2, q3⟩ := id h2
    exact good_x _ hg hs KS w f h h1 h2 (fun i f1 hf => by
      rw [q1] at hf
      match i, hf with
      | 0, hf => injection hf with hf; subst hf; exact fun W hW => ih W _ (q2.low hW)
      | 1, hf => injection hf with hf; subst hf; exact fun W hW => ih2 W _ (q3.low hW)
      | i + 2, hf => simp at hf)
  | .bin op a b l c, hg, hs => fun w f h => by
    have ih := goodE a hg.1 (by simp only [sz] at hs; omega)
    have ih2 := goodE b hg.2.1 (by simp only [sz] at hs; omega)
    obtain ⟨KS, h1, h2⟩ := h.ks
    obtain ⟨g1, g2, q1, q2, q3⟩ := id h2
    exact good_x _ hg hs KS w f h h1 h2 (fun i f1 hf => by
      rw [q1] at hf
      match i, hf with
      | 0, hf => injection hf with hf; subst hf; exact fun W hW => ih W _ (q2.low hW)
      | 1, hf => injection hf with hf; subst hf; exact fun W hW => ih2 W _ (q3.low hW)
      | i + 2, hf => simp at hf)
end Go.Proofs.Qxb6500774a
