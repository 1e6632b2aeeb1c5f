import Derived.Test.Qxb6500774aSa0
namespace Go.Proofs.Qxb6500774a
open Go.RowKit
set_option linter.unusedVariables false
set_option linter.unusedSimpArgs false

set_option linter.unusedSimpArgs false in
set_option linter.unusedVariables false in
set_option maxRecDepth 100000 in
set_option maxHeartbeats 32000000 in
theorem sxe_of (A : Z) (hA : SXS A) : SXE A := by
  intro w B pl f g FA FB h1 h2 h3 h4
  have HC := hide (fun W (hW : Ex (fun _ => False) w W) => hA W B pl _ _ FA FB (h1.low hW) (h2.low hW) (h3.low hW) (h4.low hW))
  clear h1 h2 h3 h4 hA
  obtain ⟨rs, hrs⟩ : ∃ b, sZ pl A B = b := ⟨_, rfl⟩
  rw [hrs] at HC ⊢
  clear hrs
  obtain ⟨b5, e5⟩ : ∃ b, (f.li == g.li) = b := ⟨_, rfl⟩
  obtain ⟨b6, e6⟩ : ∃ b, (f.co == g.co) = b := ⟨_, rfl⟩
  obtain ⟨b0, e0⟩ : ∃ b, (f.k == g.k) = b := ⟨_, rfl⟩
  obtain ⟨b1, e1⟩ : ∃ b, (f.x.toList == g.x.toList) = b := ⟨_, rfl⟩
  obtain ⟨b2, e2⟩ : ∃ b, (f.n == g.n) = b := ⟨_, rfl⟩
  obtain ⟨b3, e3⟩ : ∃ b, (f.m.toList == g.m.toList) = b := ⟨_, rfl⟩
  have n5 : (f.li != g.li) = !b5 := by rw [← e5]; rfl
  have n6 : (f.co != g.co) = !b6 := by rw [← e6]; rfl
  have HR : (hdZ pl f g && rs) = ((!pl || (b5 && b6)) && b0 && b1 && b2 && b3 && rs) := by unfold hdZ eqB; rw [e5, e6, e0, e1, e2, e3]
  rw [HR]
  clear HR
  have exa : Ex (fun _ => False) w (w.alloc (xO f)) := (Ex.refl _ _).alloc _
  have exb : Ex (fun _ => False) w ((w.alloc (xO f)).alloc (xO g)) := exa.alloc _
  have HE := hide exb
  have HKa := hide ((XK.new w f).keep ((Ex.refl (fun _ => False) (w.alloc (xO f))).alloc (xO g)) (fun z => z))
  have HKb := hide (XK.new (w.alloc (xO f)) g)
  have hsz : (w.alloc (xO f)).heap.size = w.heap.size + 1 := Array.size_push _
  rw [hsz] at HKb
  clear exa exb hsz
  obtain ⟨w1, hw1⟩ : ∃ x, (w.alloc (xO f)).alloc (xO g) = x := ⟨_, rfl⟩
  rw [hw1] at HE HKa HKb
  have HW1 := hide hw1
  unfold xO at HW1
  clear hw1
  unfold xV
  unfold slV at HC
  have HCW := hide (HC.out w1 HE.out)
  dsimp only at HCW
  clear HC
  go_enter Try.func42, Try.ntmps42
  go_upto_region 1 with fail
  rw [HW1.out]
  clear HW1
  generalize w.heap.size + 1 = r2 at *
  generalize w.heap.size = r1 at *
  have ka0 := HKa.out.c0
  have kb0 := HKb.out.c0
  have ka1 := HKa.out.c1
  have kb1 := HKb.out.c1
  have ka2 := HKa.out.c2
  have kb2 := HKb.out.c2
  have ka3 := HKa.out.c3
  have kb3 := HKb.out.c3
  have ka4 := HKa.out.c4
  have kb4 := HKb.out.c4
  have ka5 := HKa.out.c5
  have kb5 := HKb.out.c5
  have ka6 := HKa.out.c6
  have kb6 := HKb.out.c6
  clear HKa HKb
  cases pl
  · go_upto_region 3 with fail
    cases b0
    · go_wp2
      go_ret
      exact ⟨rfl, HE.out⟩
    cases b1
    · go_wp2
      go_ret
      exact ⟨rfl, HE.out⟩
    cases b2
    · go_wp2
      go_ret
      exact ⟨rfl, HE.out⟩
    cases b3
    · go_wp2
      go_ret
      exact ⟨rfl, HE.out⟩
    go_wp2_with (go_at_call 40; refine HCW.out.mono ?_; rintro e9 w9 ⟨rfl, hex9⟩; have HF9 := hide (HE.out.trans hex9); clear hex9; simp only [])
    go_ret
    exact ⟨rfl, HF9.out⟩
  · cases b5
    · go_wp2
      go_ret
      exact ⟨rfl, HE.out⟩
    cases b6
    · go_wp2
      go_ret
      exact ⟨rfl, HE.out⟩
    go_upto_region 3 with fail
    cases b0
    · go_wp2
      go_ret
      exact ⟨rfl, HE.out⟩
    cases b1
    · go_wp2
      go_ret
      exact ⟨rfl, HE.out⟩
    cases b2
    · go_wp2
      go_ret
      exact ⟨rfl, HE.out⟩
    cases b3
    · go_wp2
      go_ret
      exact ⟨rfl, HE.out⟩
    go_wp2_with (go_at_call 40; refine HCW.out.mono ?_; rintro e9 w9 ⟨rfl, hex9⟩; have HF9 := hide (HE.out.trans hex9); clear hex9; simp only [])
    go_ret
    exact ⟨rfl, HF9.out⟩
def ZOK : Z → Prop
  | .nil => True
  | .ex _ _ _ _ _ kd _ _ r => SXE kd ∧ ZOK r
theorem ZT.hd {w : World} {b : Bool} {A : Z} {F : List (List Value)} (h : ZT w b A F) : (A = .nil ∧ F = []) ∨ ∃ x k op v nm kd l c r sl FK F', A = .ex x k op v nm kd l c r ∧ F = ((if b = true then [.string x] else []) ++ xL ⟨k, op, v, nm, sl.q, sl.n, sl.c, l, c⟩) :: F' ∧ (b = false → x = nb) ∧ RW w ND FK sl ∧ ZT w false kd FK ∧ ZT w b r F' := by
  cases A with
  | nil => exact .inl ⟨rfl, h⟩
  | ex x k op v nm kd l c r =>
    obtain ⟨sl, FK, F', h1, h2, h3, h4, h5⟩ := h
    exact .inr ⟨x, k, op, v, nm, kd, l, c, r, sl, FK, F', rfl, h1, h2, h3, h4, h5⟩
theorem hdZ_pl (pl : Bool) (f g : XP) : hdZ pl f g = hdZ pl ⟨f.k, f.x, f.n, f.m, none, 0, 0, f.li, f.co⟩ ⟨g.k, g.x, g.n, g.m, none, 0, 0, g.li, g.co⟩ := rfl
theorem eqB_rfl (x : ByteArray) : eqB x x = true := by unfold eqB; simp
set_option linter.unusedSimpArgs false in
set_option linter.unusedVariables false in
set_option maxRecDepth 100000 in
set_option maxHeartbeats 32000000 in
theorem sxs_zero (w : World) (B : Z) (pl : Bool) (va vb : SLc) (FB : List (List Value)) (h1 : va.n = 0) (h3 : RW w ND FB vb) (h4 : ZT w false B FB) : Calls Try.prog 40 #[slV va, slV vb, .bool pl] w (RdB w (sZ pl .nil B)) := by
  have hl := h4.len.1
  have hn : vb.n = B.len := by rw [← hl]; exact h3.1
  unfold slV
  rw [h1, hn]
  clear h1 hn hl h3 h4
  cases B with
  | nil =>
    have e1 : sZ pl .nil .nil = true := rfl
    rw [e1]
    show Calls Try.prog 40 #[.slice va.q 0 va.c, .slice vb.q 0 vb.c, .bool pl] w _
    go_enter Try.func40, Try.ntmps40
    go_wp2_with fail
    go_loopw [15] (fun s15 wr => s15 = .int .i64 0 ∧ w = wr) (fun _ _ => 0)
    case atStart => exact ⟨rfl, rfl⟩
    case round =>
      obtain ⟨rfl, rfl⟩ := hrel
      go_wp2
      go_ret
      exact ⟨rfl, Ex.refl _ _⟩
  | ex x k op v nm kd l c r =>
    have e1 : sZ pl .nil (.ex x k op v nm kd l c r) = false := rfl
    rw [e1]
    obtain ⟨m, hm⟩ : ∃ m, (Z.ex x k op v nm kd l c r).len = m + 1 := ⟨r.len, rfl⟩
    rw [hm]
    have d0 : (((0 : Nat) : Int) == ((m + 1 : Nat) : Int)) = false := by simp; omega
    have d1 : ((0 : Int) == ((m + 1 : Nat) : Int)) = false := by simp; omega
    have d2 : ((0 : Int) == (m : Int) + 1) = false := by simp; omega
    have d3 : decide ((0 : Int) = (m : Int) + 1) = false := decide_eq_false (by omega)
    clear hm
    go_enter Try.func40, Try.ntmps40
    go_wp2
    go_ret
    exact ⟨rfl, Ex.refl _ _⟩
set_option linter.unusedSimpArgs false in
set_option linter.unusedVariables false in
set_option maxRecDepth 100000 in
set_option maxHeartbeats 32000000 in
theorem sxs_pos (A : Z) (hA : ZOK A) (w : World) (B : Z) (pl : Bool) (va vb : SLc) (FA FB : List (List Value)) (h1 : RW w ND FA va) (h2 : ZT w false A FA) (h3 : RW w ND FB vb) (h4 : ZT w false B FB) (hp : 0 < va.n) (heq : va.n = vb.n) : Calls Try.prog 40 #[slV va, slV vb, .bool pl] w (RdB w (sZ pl A B)) := by
  obtain ⟨ga, hqa, _, hva⟩ := h1.2.2 hp
  obtain ⟨gb, hqb, _, hvb⟩ := h3.2.2 (by rw [← heq]; exact hp)
  obtain ⟨n, hn⟩ : ∃ n, va.n = n := ⟨_, rfl⟩
  have HNa : Hid (n = FA.length) := by rw [← hn]; exact h1.1
  have HNb : Hid (n = FB.length) := by rw [← hn, heq]; exact h3.1
  have HLa : Hid (∀ V ∈ FA, V.length = 7) := h2.len.2
  have HLb : Hid (∀ V ∈ FB, V.length = 7) := h4.len.2
  have HMX : Hid (n ≤ maxLen) := by rw [← hn]; exact Nat.le_trans h1.2.1.1 h1.2.1.2
  have HVa0 := hide hva
  have HVb0 := hide hvb
  have HT1 := hide h2
  have HT2 := hide h4
  have HA := hide hA
  obtain ⟨rs, hrs⟩ : ∃ b, sZ pl A B = b := ⟨_, rfl⟩
  have HRS := hide hrs
  rw [hrs]
  unfold slV
  rw [hqa, hqb, ← heq, hn]
  clear h1 h2 h3 h4 hva hvb hqa hqb heq hrs hA
  have hpn : 0 < n := by rw [← hn]; exact hp
  have dq : (((n : Nat) : Int) == ((n : Nat) : Int)) = true := by simp
  clear hn hp
  go_enter Try.func40, Try.ntmps40
  go_wp2_with fail
  go_loopw [15] (fun s15 wr => ∃ (k : Nat) (A1 B1 : Z) (FA1 FB1 : List (List Value)), k ≤ n ∧ s15 = .int .i64 k ∧ Ex (fun _ => False) w wr ∧ ZT w false A1 FA1 ∧ ZT w false B1 FB1 ∧ FA.drop k = FA1 ∧ FB.drop k = FB1 ∧ ZOK A1 ∧ sZ pl A1 B1 = rs) (fun s15 _ => n - (intOf s15).toNat)
  case atStart => exact ⟨0, A, B, FA, FB, Nat.zero_le _, rfl, Ex.refl _ _, HT1.out, HT2.out, rfl, rfl, HA.out, HRS.out⟩
  case round =>
    clear HT1 HT2 HA HRS
    obtain ⟨k, A1, B1, FA1, FB1, hk, rfl, z1, z2, z3, z4, z5, z6, z7⟩ := hrel
    have HX := hide z1
    have HTA := hide z2
    have HTB := hide z3
    have HFA := hide z4
    have HFB := hide z5
    have HOK := hide z6
    have HR1 := hide z7
    clear z1 z2 z3 z4 z5 z6 z7
    by_cases hlt : k < n
    · have d1 : decide ((k : Int) < (n : Int)) = true := decide_eq_true (by omega)
      have d2 : decide (k < n) = true := decide_eq_true hlt
      have hwk : IntKind.i64.wrap ((k : Int) + 1) = ((k + 1 : Nat) : Int) := wrk (by have := HMX.out; unfold maxLen at this; omega)
      obtain ⟨aV, hVa⟩ : ∃ V, FA[k]? = some V := ⟨_, List.getElem?_eq_getElem (by rw [← HNa.out]; exact hlt)⟩
      have hda : FA.drop k = aV :: FA.drop (k + 1) := by
        obtain ⟨h, e⟩ := List.getElem?_eq_some_iff.1 hVa
        rw [List.drop_eq_getElem_cons h, e]
      obtain ⟨bV, hVb⟩ : ∃ V, FB[k]? = some V := ⟨_, List.getElem?_eq_getElem (by rw [← HNb.out]; exact hlt)⟩
      have hdb : FB.drop k = bV :: FB.drop (k + 1) := by
        obtain ⟨h, e⟩ := List.getElem?_eq_some_iff.1 hVb
        rw [List.drop_eq_getElem_cons h, e]
      rcases HTA.out.hd with ⟨y1, y2⟩ | ⟨x, ak, aop, av, anm, akd, al, ac, A2, sla, FKa, FA2, hA1, hF1, hx1, hka, hza, hta⟩
      · have := HFA.out; rw [hda, y2] at this; cases this
      rcases HTB.out.hd with ⟨y1, y2⟩ | ⟨x', bk, bop, bv, bnm, bkd, bl, bc, B2, slb, FKb, FB2, hB1, hF2, hx2, hkb, hzb, htb⟩
      · have := HFB.out; rw [hdb, y2] at this; cases this
      obtain ⟨f, hf⟩ : ∃ f : XP, f = ⟨ak, aop, av, anm, sla.q, sla.n, sla.c, al, ac⟩ := ⟨_, rfl⟩
      obtain ⟨g, hg⟩ : ∃ g : XP, g = ⟨bk, bop, bv, bnm, slb.q, slb.n, slb.c, bl, bc⟩ := ⟨_, rfl⟩
      obtain ⟨hVa1, hFA2⟩ : aV = xL f ∧ FA.drop (k + 1) = FA2 := by
        have := HFA.out
        rw [hda, hF1, ← hf] at this
        injection this with q1 q2
        exact ⟨q1, q2⟩
      obtain ⟨hVb1, hFB2⟩ : bV = xL g ∧ FB.drop (k + 1) = FB2 := by
        have := HFB.out
        rw [hdb, hF2, ← hg] at this
        injection this with q1 q2
        exact ⟨q1, q2⟩
      subst hVa1 hVb1
      have HOK1 : Hid (SXE akd ∧ ZOK A2) := by have := HOK.out; rw [hA1] at this; exact this
      obtain ⟨rs1, hrs1⟩ : ∃ b, (hdZ pl f g && sZ pl akd bkd) = b := ⟨_, rfl⟩
      have HRR0 : Hid ((rs1 && sZ pl A2 B2) = rs) := by
        have := HR1.out
        rw [hA1, hB1] at this
        simp only [sZ] at this
        rw [hx1 rfl, hx2 rfl, eqB_rfl, Bool.true_and] at this
        show (rs1 && sZ pl A2 B2) = rs
        rw [← this, ← hrs1, hf, hg]
        rfl
      have HCE : Hid (∀ W, Ex (fun _ => False) wr W → Calls Try.prog 42 #[xV f, xV g, .bool pl] W (RdB W rs1)) := fun W hW => by
        have hw := HX.out.trans hW
        have := HOK1.out.1 W bkd pl f g FKa FKb (by rw [hf]; exact hka.low hw) (hza.low hw) (by rw [hg]; exact hkb.low hw) (hzb.low hw)
        rw [hrs1] at this
        exact this
      have HVa := hide (HVa0.out.keep HX.out (fun z => z))
      have HVb := hide (HVb0.out.keep HX.out (fun z => z))
      have a0 := HVa.out.at HLa.out hVa (j := 0) (by decide) (v := .int .i64 f.k) rfl
      have a1 := HVa.out.at HLa.out hVa (j := 1) (by decide) (v := .string f.x) rfl
      have a2 := HVa.out.at HLa.out hVa (j := 2) (by decide) (v := .int .i64 f.n) rfl
      have a3 := HVa.out.at HLa.out hVa (j := 3) (by decide) (v := .string f.m) rfl
      have a4 := HVa.out.at HLa.out hVa (j := 4) (by decide) (v := .slice f.q f.ql f.qc) rfl
      have a5 := HVa.out.at HLa.out hVa (j := 5) (by decide) (v := .int .i64 f.li) rfl
      have a6 := HVa.out.at HLa.out hVa (j := 6) (by decide) (v := .int .i64 f.co) rfl
      rw [Nat.add_zero] at a0
      have b0 := HVb.out.at HLb.out hVb (j := 0) (by decide) (v := .int .i64 g.k) rfl
      have b1 := HVb.out.at HLb.out hVb (j := 1) (by decide) (v := .string g.x) rfl
      have b2 := HVb.out.at HLb.out hVb (j := 2) (by decide) (v := .int .i64 g.n) rfl
      have b3 := HVb.out.at HLb.out hVb (j := 3) (by decide) (v := .string g.m) rfl
      have b4 := HVb.out.at HLb.out hVb (j := 4) (by decide) (v := .slice g.q g.ql g.qc) rfl
      have b5 := HVb.out.at HLb.out hVb (j := 5) (by decide) (v := .int .i64 g.li) rfl
      have b6 := HVb.out.at HLb.out hVb (j := 6) (by decide) (v := .int .i64 g.co) rfl
      rw [Nat.add_zero] at b0
      have HTA2 := hide hta
      have HTB2 := hide htb
      have HFA2 := hide hFA2
      have HFB2 := hide hFB2
      have HOK2 := hide HOK1.out.2
      have HX2 := hide HX.out
      clear hda hdb hF1 hF2 hx1 hx2 hka hza hta hkb hzb htb hf hg hFA2 hFB2 hrs1 hA1 hB1 hVa hVb HTA HTB HFA HFB HOK HOK1 HR1 HVa HVb HX
      unfold xV at HCE
      go_upto_region 6 with fail
      refine wp_region_held_drew (S := fun w' => Ex (fun _ => False) wr w') (by kernel_rfl) ((Ex.refl _ _).drew) (fun hHeld => ?_)
      refine wpAnyH_take (i := 0) (v := ?_) rfl (by kernel_rfl) (by kernel_rfl) (by kernel_rfl) (fun _ _ _ h => h) (Or.inl ⟨by rfl, ?_⟩) (by assumption) ?_
      rotate_left
      · (intro w hSw; (try dsimp only at hSw); go_simp; try (with_reducible rfl))
      try simp only [Act.put, List.getElem_toArray, List.getElem_cons_zero, List.getElem_cons_succ, List.setIfInBounds_toArray, List.set_cons_zero, List.set_cons_succ]
      refine wpAnyH_take (i := 1) (v := ?_) rfl (by kernel_rfl) (by kernel_rfl) (by kernel_rfl) (fun _ _ _ h => h) (Or.inl ⟨by rfl, ?_⟩) (by assumption) ?_
      rotate_left
      · (intro w hSw; (try dsimp only at hSw); go_simp; try (with_reducible rfl))
      try simp only [Act.put, List.getElem_toArray, List.getElem_cons_zero, List.getElem_cons_succ, List.setIfInBounds_toArray, List.set_cons_zero, List.set_cons_succ]
      refine wpAnyH_take (i := 2) (v := ?_) rfl (by kernel_rfl) (by kernel_rfl) (by kernel_rfl) (fun _ _ _ h => h) (Or.inl ⟨by rfl, ?_⟩) (by assumption) ?_
      rotate_left
      · (intro w hSw; (try dsimp only at hSw); go_simp; try (with_reducible rfl))
      try simp only [Act.put, List.getElem_toArray, List.getElem_cons_zero, List.getElem_cons_succ, List.setIfInBounds_toArray, List.set_cons_zero, List.set_cons_succ]
      refine wpAnyH_take (i := 3) (v := ?_) rfl (by kernel_rfl) (by kernel_rfl) (by kernel_rfl) (fun _ _ _ h => h) (Or.inl ⟨by rfl, ?_⟩) (by assumption) ?_
      rotate_left
      · (intro w hSw; (try dsimp only at hSw); (have q0 := hSw.cell (fun z => z) a0; have q1 := hSw.cell (fun z => z) a1; have q2 := hSw.cell (fun z => z) a2; have q3 := hSw.cell (fun z => z) a3; have q4 := hSw.cell (fun z => z) a4; have q5 := hSw.cell (fun z => z) a5; have q6 := hSw.cell (fun z => z) a6); go_simp; try (with_reducible rfl))
      try simp only [Act.put, List.getElem_toArray, List.getElem_cons_zero, List.getElem_cons_succ, List.setIfInBounds_toArray, List.set_cons_zero, List.set_cons_succ]
      refine wpAnyH_take (i := 4) (v := ?_) rfl (by kernel_rfl) (by kernel_rfl) (by kernel_rfl) (fun _ _ _ h => h) (Or.inl ⟨by rfl, ?_⟩) (by assumption) ?_
      rotate_left
      · (intro w hSw; (try dsimp only at hSw); go_simp; try (with_reducible rfl))
      try simp only [Act.put, List.getElem_toArray, List.getElem_cons_zero, List.getElem_cons_succ, List.setIfInBounds_toArray, List.set_cons_zero, List.set_cons_succ]
      refine wpAnyH_take (i := 5) (v := ?_) rfl (by kernel_rfl) (by kernel_rfl) (by kernel_rfl) (fun _ _ _ h => h) (Or.inl ⟨by rfl, ?_⟩) (by assumption) ?_
      rotate_left
      · (intro w hSw; (try dsimp only at hSw); go_simp; try (with_reducible rfl))
      try simp only [Act.put, List.getElem_toArray, List.getElem_cons_zero, List.getElem_cons_succ, List.setIfInBounds_toArray, List.set_cons_zero, List.set_cons_succ]
      refine wpAnyH_take (i := 6) (v := ?_) rfl (by kernel_rfl) (by kernel_rfl) (by kernel_rfl) (fun _ _ _ h => h) (Or.inl ⟨by rfl, ?_⟩) (by assumption) ?_
      rotate_left
      · (intro w hSw; (try dsimp only at hSw); go_simp; try (with_reducible rfl))
      try simp only [Act.put, List.getElem_toArray, List.getElem_cons_zero, List.getElem_cons_succ, List.setIfInBounds_toArray, List.set_cons_zero, List.set_cons_succ]
      refine wpAnyH_take (i := 7) (v := ?_) rfl (by kernel_rfl) (by kernel_rfl) (by kernel_rfl) (fun _ _ _ h => h) (Or.inl ⟨by rfl, ?_⟩) (by assumption) ?_
      rotate_left
      · (intro w hSw; (try dsimp only at hSw); (have q0 := hSw.cell (fun z => z) b0; have q1 := hSw.cell (fun z => z) b1; have q2 := hSw.cell (fun z => z) b2; have q3 := hSw.cell (fun z => z) b3; have q4 := hSw.cell (fun z => z) b4; have q5 := hSw.cell (fun z => z) b5; have q6 := hSw.cell (fun z => z) b6); go_simp; try (with_reducible rfl))
      try simp only [Act.put, List.getElem_toArray, List.getElem_cons_zero, List.getElem_cons_succ, List.setIfInBounds_toArray, List.set_cons_zero, List.set_cons_succ]
      refine wpAnyH_take (i := 8) (v := ?_) rfl (by kernel_rfl) (by kernel_rfl) (by kernel_rfl) (fun _ _ _ h => h) (Or.inl ⟨by rfl, ?_⟩) (by assumption) ?_
      rotate_left
      · (intro w hSw; (try dsimp only at hSw); go_simp; try (with_reducible rfl))
      try simp only [Act.put, List.getElem_toArray, List.getElem_cons_zero, List.getElem_cons_succ, List.setIfInBounds_toArray, List.set_cons_zero, List.set_cons_succ]
      refine wpAnyH_ready (rs := [9]) (by kernel_rfl) (by simp) ?_
      refine (AllReadyH.cons rfl (fun K hK => ?_) AllReadyH.nil)
      · refine step_call rfl 42 _ (by simp [go_sem]) (HCE.out _ hHeld) ?_
        rintro e9 w3 ⟨rfl, hex3⟩
        have HX3 := hide (hHeld.trans hex3)
        clear hex3
        refine ⟨_, rfl, ?_⟩
        refine hK.out _ _ ?_ (fun hHeld => ?_)
        · exact HX3.out
        clear hK K
        try simp only [Act.put, List.getElem_toArray, List.getElem_cons_zero, List.getElem_cons_succ, List.setIfInBounds_toArray, List.set_cons_zero, List.set_cons_succ]
        refine wpAnyH_take (i := 10) (v := ?_) rfl (by kernel_rfl) (by kernel_rfl) (by kernel_rfl) (fun _ _ _ h => h) (Or.inl ⟨by rfl, ?_⟩) (by assumption) ?_
        rotate_left
        · (intro w hSw; (try dsimp only at hSw); go_simp; try (with_reducible rfl))
        try simp only [Act.put, List.getElem_toArray, List.getElem_cons_zero, List.getElem_cons_succ, List.setIfInBounds_toArray, List.set_cons_zero, List.set_cons_succ]
        refine wpAnyH_done (by kernel_rfl) ?_ _
        cases rs1
        · have HF : Hid (rs = false) := by rw [← HRR0.out]; rfl
          clear hHeld HCE HRR0
          go_wp2
          go_ret
          exact ⟨by rw [HF.out]; rfl, HX2.out.trans HX3.out⟩
        rw [Bool.true_and] at HRR0
        clear hHeld HCE
        go_wp2
        go_roundw
        case rel => exact ⟨k + 1, A2, B2, FA2, FB2, by omega, by go_num, HX2.out.trans HX3.out, HTA2.out, HTB2.out, HFA2.out, HFB2.out, HOK2.out, HRR0.out⟩
        case measure => simp [intOf]; omega
    · obtain rfl : k = n := by omega
      have d1 : decide ((k : Int) < (k : Int)) = false := decide_eq_false (by omega)
      have hA0 : A1 = .nil := by
        rcases HTA.out.hd with ⟨y1, _⟩ | ⟨x, ak, aop, av, anm, akd, al, ac, A2, sla, FKa, FA2, _, hF1, _⟩
        · exact y1
        · have := HFA.out; rw [HNa.out, List.drop_length, hF1] at this; cases this
      have hB0 : B1 = .nil := by
        rcases HTB.out.hd with ⟨y1, _⟩ | ⟨x, ak, aop, av, anm, akd, al, ac, A2, sla, FKa, FA2, _, hF1, _⟩
        · exact y1
        · have := HFB.out; rw [HNb.out, List.drop_length, hF1] at this; cases this
      have HF : Hid (rs = true) := by have := HR1.out; rw [hA0, hB0] at this; rw [← this]; rfl
      clear hA0 hB0 HTA HTB HFA HFB HOK HR1
      go_wp2
      go_ret
      exact ⟨by rw [HF.out]; rfl, HX.out⟩
set_option linter.unusedSimpArgs false in
set_option linter.unusedVariables false in
set_option maxRecDepth 100000 in
set_option maxHeartbeats 32000000 in
theorem sxs_ne (A B : Z) (w : World) (pl : Bool) (va vb : SLc) (hne : va.n ≠ vb.n) (hz : sZ pl A B = false) : Calls Try.prog 40 #[slV va, slV vb, .bool pl] w (RdB w (sZ pl A B)) := by
  rw [hz]
  clear hz
  unfold slV
  obtain ⟨n, hn⟩ : ∃ n, va.n = n := ⟨_, rfl⟩
  obtain ⟨m, hm⟩ : ∃ n, vb.n = n := ⟨_, rfl⟩
  rw [hn, hm] at hne ⊢
  have d0 : (((n : Nat) : Int) == ((m : Nat) : Int)) = false := by simp; omega
  have d1 : decide (((n : Nat) : Int) = ((m : Nat) : Int)) = false := decide_eq_false (by omega)
  clear hn hm hne
  go_enter Try.func40, Try.ntmps40
  go_wp2
  go_ret
  exact ⟨rfl, Ex.refl _ _⟩
theorem sxs_of (A : Z) (hA : ZOK A) : SXS A := by
  intro w B pl va vb FA FB h1 h2 h3 h4
  by_cases hn : va.n = vb.n
  · by_cases h0 : va.n = 0
    · have : A = .nil := by
        have hl := h2.len.1
        rw [← h1.1, h0] at hl
        cases A with
        | nil => rfl
        | ex x k op v nm kd l c r => exact absurd hl (by show ¬ 0 = _ + 1; omega)
      subst this
      exact sxs_zero w B pl va vb FB h0 h3 h4
    · exact sxs_pos A hA w B pl va vb FA FB h1 h2 h3 h4 (by omega) hn
  · exact sxs_ne A B w pl va vb hn (sZ_len (fun z => hn (by have e1 := h1.1; have e2 := h3.1; rw [h2.len.1] at e1; rw [h4.len.1] at e2; omega)))
theorem sxs_all : ∀ (A : Z), SXS A ∧ ZOK A
  | .nil => ⟨sxs_of .nil trivial, trivial⟩
  | .ex x k op v nm kd l c r => by
    have h : ZOK (.ex x k op v nm kd l c r) := ⟨sxe_of kd (sxs_all kd).1, (sxs_all r).2⟩
    exact ⟨sxs_of _ h, h⟩
theorem sameExprs_any (A : Z) : SXS A := (sxs_all A).1
theorem sameExpr_any (A : Z) : SXE A := sxe_of A (sxs_all A).1
end Go.Proofs.Qxb6500774a
