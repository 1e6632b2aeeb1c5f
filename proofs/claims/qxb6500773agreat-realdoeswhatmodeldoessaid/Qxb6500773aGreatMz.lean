import Derived.Test.Qxb6500773aGreatMz0
namespace Go.Proofs.Qxb6500773aGreat
open Go.RowKit

set_option linter.unusedSimpArgs false in
set_option maxRecDepth 100000 in
set_option maxHeartbeats 8000000 in
/-- cnfm.ParseDimacs -/
theorem parseDimacsM_any (w : World) (a00 : Option Addr) (c : Nat) (X : List Int) (h : UL w a00 X) (hl : X.length ≤ 1000000000) :
    Calls Tryz.prog 88 #[.slice a00 X.length c] w (FmoPost w (fmP X)) := by
  obtain ⟨i0, hi0, hz0, hz1, hz2⟩ := info_of Tryz.info3
  have HI0 := hide (And.intro hi0 (And.intro hz0 (And.intro hz1 hz2)))
  clear hi0 hz0 hz1 hz2
  obtain ⟨i1, hi0, hz0, hz1, hz2⟩ := info_of Tryz.info30
  have HI1 := hide (And.intro hi0 (And.intro hz0 (And.intro hz1 hz2)))
  clear hi0 hz0 hz1 hz2
  obtain ⟨kl, hkl⟩ : ∃ kl, (lnP X).length = kl + 1 := ⟨(lnP X).length - 1, by have := lnA_pos X [] []; unfold lnP; omega⟩
  have C137 : Hid (∀ er w', Ex (fun _ => False) w w' → Calls Tryz.prog 137 #[.int .i64 er, .slice a00 X.length c] w' (ExPost w' (fltV er ((kl : Int) + 1) (eolM X kl)))) := fun er w' e => atEndM_any w' a00 c X er kl (h.keep e) hl hkl
  have C140a : Hid (∀ k, k < (lnP X).length → ∀ w', Ex (fun _ => False) w w' → Calls Tryz.prog 140 #[.int .i64 7, .slice a00 X.length c, .int .i64 ((k : Int) + 1)] w' (ExPost w' (fltV 7 ((k : Int) + 1) (eolM X k)))) := fun k hk w' e => atLineEndM_any w' a00 c X 7 k (h.keep e) hl hk
  have c136 := hide (tokensM_any (phW w) a00 c X (h.keep (ph_new w).ex) hl)
  have HTL : Hid ((tkP X).length ≤ 1000000000) := Nat.le_trans (tkP_le X) hl
  have HTT : Hid (∀ t ∈ tkP X, t.t.length ≤ 1000000000) := fun t ht => Nat.le_trans (tkP_txt ht) hl
  have HLL : Hid (∀ t ∈ tkP X, ∃ k : Nat, k < (lnP X).length ∧ t.ln = (k : Int) + 1) := fun t ht => tkP_ln ht
  have HR : Hid ((if (tkP X).length = 0 then .bad 6 ((kl : Int) + 1) (eolM X kl) else fm1 ((kl : Int) + 1) (eolM X kl) (eolM X ((tg (tkP X) 0).ln - 1).toNat) (tkP X)) = fmP X) := by show _ = _; unfold fmP; rw [hkl]; rfl
  clear h
  have HPok : Hid (∀ nv F v n w', FmO.ok nv F = fmP X → Ex (fun _ => False) w w' → LP .i64 e1 t1 1 30 w.heap.size w' F v n → FmoPost w (fmP X) (.returned (.tuple #[.agg #[.int .i64 nv, v], fltV 0 0 0])) w') := fun nv F v n w' e1 e2 e3 => by rw [← e1]; exact ⟨e2, v, n, rfl, e3⟩
  have HPbad : Hid (∀ er ln col w', FmO.bad er ln col = fmP X → Ex (fun _ => False) w w' → FmoPost w (fmP X) (.returned (.tuple #[.agg #[.int .i64 0, .slice none 0 0], fltV er ln col])) w') := fun er ln col w' e1 e2 => by rw [← e1]; exact ⟨e2, rfl⟩
  obtain ⟨R, hR⟩ : ∃ R, FmoPost w (fmP X) = R := ⟨_, rfl⟩
  rw [hR] at HPok HPbad ⊢
  clear hR
  generalize fmP X = R0 at *
  generalize eolM X kl = ec at *
  have HEO : Hid (∀ k, eolM X k = eolM X k) := fun _ => rfl
  clear HEO
  obtain ⟨eo, heo⟩ : ∃ z : Nat → Int, eolM X = z := ⟨_, rfl⟩
  rw [heo] at C140a HR
  clear heo
  generalize tkP X = Ts at *
  have HP0 := hide (ph_new w)
  have HPS : Hid ((phW w).heap.size = w.heap.size + 3) := by show _ = _; unfold phW; simp only [szAl]
  unfold phW at c136 HP0 HPS
  go_enter Tryz.func88, Tryz.ntmps88
  go_wp2_with fail
  refine c136.out.mono ?_
  rintro e w2 ⟨vt, nt, rfl, hlp, hex⟩
  clear c136
  have HPH := hide (HP0.out.keep hex)
  have HEw := hide HPH.out.ex
  have HLB : Hid (LP .u8 e3 t3 3 181 (w.heap.size + 3) w2 Ts vt nt) := by have := hlp; rw [HPS.out] at this; exact this
  have hnt : nt ≤ 1000000000 := by have := HTL.out; have := hlp.hn; omega
  rw [hlp.hn] at HR
  clear hlp hex HP0 HPS
  have HGB : Hid (w.heap.size < w.heap.size + 3 ∧ w.heap.size + 1 < w.heap.size + 3 ∧ w.heap.size + 1 + 1 < w.heap.size + 3) := ⟨by omega, by omega, by omega⟩
  generalize hB3 : w.heap.size + 3 = B3 at *
  have HBW : Hid (w.heap.size ≤ B3) := by show _ ≤ _; omega
  clear hB3
  generalize hN : w.heap.size + 1 + 1 = N at *
  clear hN
  generalize hb : w.heap.size + 1 = b at *
  clear hb
  generalize ha : w.heap.size = a at *
  have HAW : Hid (w.heap.size ≤ a) := Nat.le_of_eq ha
  clear ha
  obtain ⟨atv, ctv, hvt⟩ : ∃ at1 ct, vt = .slice at1 nt ct := by obtain ⟨V, h1, _⟩ := HLB.out.ro; exact own_form h1
  subst hvt
  by_cases hn0 : nt = 0
  · rw [if_pos hn0] at HR
    have hn0b : ((nt : Int) == 0) = true := by simp [hn0]
    clear hn0
    go_upto_region 4 with fail
    have HK0 : Hid ((ErN N) w2.drew) := ⟨HPH.out.n0, HPH.out.n1⟩
    refine wp_region_held_drew (S := ErN N) (by kernel_rfl) HK0.out (fun hHeld => ?_)
    refine wpAnyH_take (i := 0) (v := ?_) rfl (by kernel_rfl) (by kernel_rfl) (by kernel_rfl) (fun _ _ _ h => h) (Or.inl ⟨by rfl, ?_⟩) (by assumption) ?_
    rotate_left
    · (intro w hSw; (try dsimp only at hSw); (obtain ⟨z0, z1⟩ := hSw); go_simp; try (with_reducible rfl))
    try simp only [Act.put, List.getElem_toArray, List.getElem_cons_zero, List.getElem_cons_succ, List.setIfInBounds_toArray, List.set_cons_zero, List.set_cons_succ]
    refine wpAnyH_take (i := 1) (v := ?_) rfl (by kernel_rfl) (by kernel_rfl) (by kernel_rfl) (fun _ _ _ h => h) (Or.inl ⟨by rfl, ?_⟩) (by assumption) ?_
    rotate_left
    · (intro w hSw; (try dsimp only at hSw); go_simp; try (with_reducible rfl))
    try simp only [Act.put, List.getElem_toArray, List.getElem_cons_zero, List.getElem_cons_succ, List.setIfInBounds_toArray, List.set_cons_zero, List.set_cons_succ]
    refine wpAnyH_ready (rs := [2]) (by kernel_rfl) (by simp) ?_
    refine (AllReadyH.cons rfl (fun K hK => ?_) AllReadyH.nil)
    · have cc := hide (C137.out 6 w2.drew ((HEw.out).drew))
      refine step_call rfl 137 #[.int .i64 6, .slice a00 X.length c] (by simp [go_sem]) cc.out ?_
      rintro e wy ⟨rfl, hy⟩
      clear cc
      have HPy := hide ((HPH.out.keep ((Ex.refl (fun _ => False) w2).drew)).keep hy)
      have K1 := hide (HK0.out.ex hy (fun z => z))
      have K2 := hide (K1.out.ex (erA_ex wy a) (fun z => HPH.out.na z))
      have K3 := hide (K2.out.ex (erB_ex (erA wy a) b 6 ((kl : Int) + 1) ec) (fun z => HPH.out.nb z))
      have HPO := hide (HPbad.out 6 ((kl : Int) + 1) ec _ HR.out (HPy.out.fin 6 ((kl : Int) + 1) ec))
      have a0 := HPy.out.a0
      have a1 := HPy.out.a1
      have af := HPy.out.af
      have b0 := HPy.out.b0
      have b1 := HPy.out.b1
      have b2 := HPy.out.b2
      have bf := HPy.out.bf
      have hab := HPy.out.ab
      have hba : b ≠ a := fun z => hab z.symm
      unfold erA at K2
      unfold erB erA at K3 HPO
      unfold fltV at HPO ⊢
      clear HPy
      refine ⟨_, rfl, ?_⟩
      refine hK.out _ _ ?_ (fun hHeld => ?_)
      · (first | with_reducible exact K1.out | with_reducible exact K2.out | with_reducible exact K3.out)
      clear hK K
      try simp only [Act.put, List.getElem_toArray, List.getElem_cons_zero, List.getElem_cons_succ, List.setIfInBounds_toArray, List.set_cons_zero, List.set_cons_succ]
      refine wpAnyH_ready (rs := [3]) (by kernel_rfl) (by simp) ?_
      refine (AllReadyH.cons rfl (fun K hK => ?_) AllReadyH.nil)
      · go_simp
        refine hK.out _ _ ?_ (fun hHeld => ?_)
        · (first | with_reducible exact K1.out | with_reducible exact K2.out | with_reducible exact K3.out)
        clear hK K
        try simp only [Act.put, List.getElem_toArray, List.getElem_cons_zero, List.getElem_cons_succ, List.setIfInBounds_toArray, List.set_cons_zero, List.set_cons_succ]
        refine wpAnyH_ready (rs := [4]) (by kernel_rfl) (by simp) ?_
        refine (AllReadyH.cons rfl (fun K hK => ?_) AllReadyH.nil)
        · go_simp
          refine hK.out _ _ ?_ (fun hHeld => ?_)
          · (first | with_reducible exact K1.out | with_reducible exact K2.out | with_reducible exact K3.out)
          clear hK K
          try simp only [Act.put, List.getElem_toArray, List.getElem_cons_zero, List.getElem_cons_succ, List.setIfInBounds_toArray, List.set_cons_zero, List.set_cons_succ]
          refine wpAnyH_done (by kernel_rfl) ?_ _
          clear K1 K2 K3 HK0 HPok HPbad
          go_wp2_with (with_reducible refine bodyPost_ret (v := .tuple #[.agg #[.int .i64 0, .slice none 0 0], .agg #[.int .i64 6, .int .i64 ((kl : Int) + 1), .int .i64 ec]]) ?hr ?hd ?hp)
          case hr => simp [results, Tryz.results88, go_sem, a0, a1, b0, b1, b2, hab, hba]
          case hd => rfl
          case hp => exact HPO.out
  · rw [if_neg hn0] at HR
    have hn0b : ((nt : Int) == 0) = false := by simpa using hn0
    obtain ⟨gt, cg, hgt⟩ : ∃ g cg, Value.slice atv nt ctv = .slice (some ⟨g, 0, none⟩) nt cg := by obtain ⟨V, h1, _⟩ := HLB.out.ro; exact own_some h1 (by omega)
    injection hgt with hgt _ hgt2
    subst hgt hgt2
    have HGT : Hid (¬ gt = a ∧ ¬ gt = b) := by obtain ⟨V, h1, _⟩ := HLB.out.ro; have := (h1.lt gt rfl).1; have := HGB.out; exact ⟨by omega, by omega⟩
    have hj0 : 0 < nt := by omega
    have hji0 : (0 : Int) < (nt : Int) := by omega
    obtain ⟨a01, c01, hcl, hik, hcc, hcm, -⟩ := HLB.out.atG (s := 3) (fun _ _ => rfl) (tg_at (Ts := Ts) (i := 0) (by rw [HLB.out.hn]; omega))
    obtain ⟨T0, hT0⟩ : ∃ z, tg Ts 0 = z := ⟨_, rfl⟩
    rw [hT0] at hcl hik hcc
    have HT0 := hide hT0
    have HTL0 : Hid (T0.t.length ≤ 1000000000) := HTT.out _ (by rw [← hT0]; exact List.mem_of_getElem? (tg_at (by rw [HLB.out.hn]; omega)))
    clear hT0
    obtain ⟨tt0, ln0, col0⟩ := T0
    dsimp only [t3] at hcl hik hcc HTL0
    obtain ⟨tl0, htl0⟩ : ∃ z, tt0.length = z := ⟨_, rfl⟩
    have HQ0 : Hid ((∀ wx, Ex (fun _ => False) w2 wx → UL wx a01 tt0 ∧ wx.cell? ⟨gt, 0, none⟩ = some (.slice a01 tl0 c01) ∧ wx.cell? ⟨gt, 1, none⟩ = some (.int .i64 ln0) ∧ wx.cell? ⟨gt, 2, none⟩ = some (.int .i64 col0)) ∧ tt0.length = tl0 ∧ tl0 ≤ c01 ∧ c01 ≤ maxLen ∧ tl0 ≤ 1000000000) := ⟨fun wx e => ⟨(hik.keep e (fun _ _ _ z => z)).ul, e.cell (fun z => z) (by rw [← htl0]; exact hcl 0 (by decide) _ rfl), e.cell (fun z => z) (hcl 1 (by decide) _ rfl), e.cell (fun z => z) (hcl 2 (by decide) _ rfl)⟩, htl0, by rw [← htl0]; exact hcc, hcm, by rw [← htl0]; exact HTL0.out⟩
    clear hcl hik hcc hcm htl0 HTL0
    unfold fm1 at HR
    rw [HT0.out] at HR
    dsimp only at HR
    obtain ⟨k0, hk0, hln⟩ := HLL.out (tg Ts 0) (List.mem_of_getElem? (tg_at (by rw [HLB.out.hn]; omega)))
    rw [HT0.out] at hln
    dsimp only at hln
    have C140 := hide (C140a.out k0 hk0)
    rw [hln] at HR HT0 HQ0
    clear C140a hk0
    have hk0n : ((k0 : Int) + 1 - 1).toNat = k0 := by omega
    rw [hk0n] at HR
    clear hk0n
    generalize eo k0 = e0 at *
    have HX : Hid (Ex (fun _ => False) w2 w2) := Ex.refl _ _
    clear HLL hln ln0
    obtain ⟨ln0, hln0⟩ : ∃ z, ((k0 : Int) + 1) = z := ⟨_, rfl⟩
    rw [hln0] at HT0 HQ0 HR C140
    clear hln0
    obtain ⟨hu, x0, x1, x2⟩ := HQ0.out.1 w2 HX.out
    have cc : Hid (Calls Tryz.prog 138 #[.agg #[.slice a01 tl0 c01, .int .i64 ln0, .int .i64 col0], .int .u8 112, .int .u8 0, .int .u8 0] w2 (ExPost w2 (.bool (tt0 == [112])))) := by have := is1M_any w2 a01 c01 tt0 ln0 col0 112 hu (by rw [HQ0.out.2.1]; exact HQ0.out.2.2.2.2); rw [HQ0.out.2.1] at this; exact this
    obtain ⟨bz, hbz⟩ : ∃ z, (tt0 == [112]) = z := ⟨_, rfl⟩
    rw [hbz] at cc HR
    clear hbz hu
    go_wp2_with fail
    refine cc.out.mono ?_
    rintro e w5 ⟨rfl, hz⟩
    clear cc x0 x1 x2
    replace HPH := hide (HPH.out.keep hz)
    replace HX := hide (HX.out.trans hz)
    clear hz
    cases bz
    · rw [if_neg (by simp)] at HR
      obtain ⟨-, y0, y1, y2⟩ := HQ0.out.1 _ HX.out
      go_upto_region 6 with fail
      have HK0 : Hid ((ErT N gt (0) (.slice a01 tl0 c01) ln0 col0) w5.drew) := ⟨HPH.out.n0, HPH.out.n1, y0, y1, y2⟩
      refine wp_region_held_drew (S := ErT N gt (0) (.slice a01 tl0 c01) ln0 col0) (by kernel_rfl) HK0.out (fun hHeld => ?_)
      refine wpAnyH_take (i := 0) (v := ?_) rfl (by kernel_rfl) (by kernel_rfl) (by kernel_rfl) (fun _ _ _ h => h) (Or.inl ⟨by rfl, ?_⟩) (by assumption) ?_
      rotate_left
      · (intro w hSw; (try dsimp only at hSw); (obtain ⟨z0, z1, z2, z3, z4⟩ := hSw; simp only [Nat.reduceAdd] at z2 z3 z4); go_simp; try (with_reducible rfl))
      try simp only [Act.put, List.getElem_toArray, List.getElem_cons_zero, List.getElem_cons_succ, List.setIfInBounds_toArray, List.set_cons_zero, List.set_cons_succ]
      refine wpAnyH_take (i := 1) (v := ?_) rfl (by kernel_rfl) (by kernel_rfl) (by kernel_rfl) (fun _ _ _ h => h) (Or.inl ⟨by rfl, ?_⟩) (by assumption) ?_
      rotate_left
      · (intro w hSw; (try dsimp only at hSw); go_simp; try (with_reducible rfl))
      try simp only [Act.put, List.getElem_toArray, List.getElem_cons_zero, List.getElem_cons_succ, List.setIfInBounds_toArray, List.set_cons_zero, List.set_cons_succ]
      refine wpAnyH_take (i := 2) (v := ?_) rfl (by kernel_rfl) (by kernel_rfl) (by kernel_rfl) (fun _ _ _ h => h) (Or.inl ⟨by rfl, ?_⟩) (by assumption) ?_
      rotate_left
      · (intro w hSw; (try dsimp only at hSw); go_simp; try (with_reducible rfl))
      try simp only [Act.put, List.getElem_toArray, List.getElem_cons_zero, List.getElem_cons_succ, List.setIfInBounds_toArray, List.set_cons_zero, List.set_cons_succ]
      refine wpAnyH_take (i := 3) (v := ?_) rfl (by kernel_rfl) (by kernel_rfl) (by kernel_rfl) (fun _ _ _ h => h) (Or.inl ⟨by rfl, ?_⟩) (by assumption) ?_
      rotate_left
      · (intro w hSw; (try dsimp only at hSw); (obtain ⟨z0, z1, z2, z3, z4⟩ := hSw; simp only [Nat.reduceAdd] at z2 z3 z4); go_simp; try (with_reducible rfl))
      try simp only [Act.put, List.getElem_toArray, List.getElem_cons_zero, List.getElem_cons_succ, List.setIfInBounds_toArray, List.set_cons_zero, List.set_cons_succ]
      refine wpAnyH_ready (rs := [4]) (by kernel_rfl) (by simp) ?_
      refine (AllReadyH.cons rfl (fun K hK => ?_) AllReadyH.nil)
      · have cc := hide (atM_any w5.drew (.slice a01 tl0 c01) ⟨_, _, _, rfl⟩ 6 ln0 col0)
        refine step_call rfl 139 #[.int .i64 6, .agg #[.slice a01 tl0 c01, .int .i64 ln0, .int .i64 col0]] (by simp [go_sem]) cc.out ?_
        rintro e wy ⟨rfl, hy⟩
        clear cc
        have HPy := hide ((HPH.out.keep ((Ex.refl (fun _ => False) w5).drew)).keep hy)
        have K1 := hide (HK0.out.ex hy (fun z => z) (fun z => z))
        have K2 := hide (K1.out.ex (erA_ex wy a) (fun z => HPH.out.na z) (fun z => HGT.out.1 z))
        have K3 := hide (K2.out.ex (erB_ex (erA wy a) b 6 ln0 col0) (fun z => HPH.out.nb z) (fun z => HGT.out.2 z))
        have HPO := hide (HPbad.out 6 ln0 col0 _ HR.out (HPy.out.fin 6 ln0 col0))
        have a0 := HPy.out.a0
        have a1 := HPy.out.a1
        have af := HPy.out.af
        have b0 := HPy.out.b0
        have b1 := HPy.out.b1
        have b2 := HPy.out.b2
        have bf := HPy.out.bf
        have hab := HPy.out.ab
        have hba : b ≠ a := fun z => hab z.symm
        unfold erA at K2
        unfold erB erA at K3 HPO
        unfold fltV at HPO ⊢
        clear HPy
        refine ⟨_, rfl, ?_⟩
        refine hK.out _ _ ?_ (fun hHeld => ?_)
        · (first | with_reducible exact K1.out | with_reducible exact K2.out | with_reducible exact K3.out)
        clear hK K
        try simp only [Act.put, List.getElem_toArray, List.getElem_cons_zero, List.getElem_cons_succ, List.setIfInBounds_toArray, List.set_cons_zero, List.set_cons_succ]
        refine wpAnyH_ready (rs := [5]) (by kernel_rfl) (by simp) ?_
        refine (AllReadyH.cons rfl (fun K hK => ?_) AllReadyH.nil)
        · go_simp
          refine hK.out _ _ ?_ (fun hHeld => ?_)
          · (first | with_reducible exact K1.out | with_reducible exact K2.out | with_reducible exact K3.out)
          clear hK K
          try simp only [Act.put, List.getElem_toArray, List.getElem_cons_zero, List.getElem_cons_succ, List.setIfInBounds_toArray, List.set_cons_zero, List.set_cons_succ]
          refine wpAnyH_ready (rs := [6]) (by kernel_rfl) (by simp) ?_
          refine (AllReadyH.cons rfl (fun K hK => ?_) AllReadyH.nil)
          · go_simp
            refine hK.out _ _ ?_ (fun hHeld => ?_)
            · (first | with_reducible exact K1.out | with_reducible exact K2.out | with_reducible exact K3.out)
            clear hK K
            try simp only [Act.put, List.getElem_toArray, List.getElem_cons_zero, List.getElem_cons_succ, List.setIfInBounds_toArray, List.set_cons_zero, List.set_cons_succ]
            refine wpAnyH_done (by kernel_rfl) ?_ _
            clear K1 K2 K3 HK0 HPok HPbad
            go_wp2_with (with_reducible refine bodyPost_ret (v := .tuple #[.agg #[.int .i64 0, .slice none 0 0], .agg #[.int .i64 6, .int .i64 ln0, .int .i64 col0]]) ?hr ?hd ?hp)
            case hr => simp [results, Tryz.results88, go_sem, a0, a1, b0, b1, b2, hab, hba]
            case hd => rfl
            case hp => exact HPO.out
    · rw [if_pos rfl] at HR
      unfold fm2 at HR
      obtain ⟨-, x0, x1, x2⟩ := HQ0.out.1 w5 HX.out
      go_upto_region 10 with fail
      clear x0 x1 x2
      have HC0 : Hid (hdC (Ts.take 0) ln0 = 0) := rfl
      go_loopw [7, 43] (fun s7 s43 wx => ∃ (i h : Nat), s43 = .int .i64 i ∧ s7 = .int .i64 h ∧ i ≤ nt ∧ h ≤ i ∧ Hid (hdC (Ts.take i) ln0 = h) ∧ Hid (PH w wx a b N) ∧ Hid (Ex (fun _ => False) w2 wx)) (fun _ s43 _ => nt - (intOf s43).toNat)
      case atStart => exact ⟨0, 0, rfl, rfl, Nat.zero_le _, Nat.le_refl _, HC0, HPH, HX⟩
      case round =>
        clear HPH HX HC0
        obtain ⟨i, h, rfl, rfl, hi, hhi0, HC, HPH, HX⟩ := hrel
        generalize hgw : wr = wl at *
        clear hgw
        have hw1 : wrap64 ((i : Int) + 1) = ((i + 1 : Nat) : Int) := by unfold wrap64; omega
        have hw2 : wrap64 ((h : Int) + 1) = ((h + 1 : Nat) : Int) := by unfold wrap64; omega
        by_cases hlt : i < nt
        · have hib : decide ((i : Int) < (nt : Int)) = true := decide_eq_true (by omega)
          have hii : (i : Int) < (nt : Int) := by omega
          obtain ⟨t, ht⟩ : ∃ t, Ts[i]? = some t := ⟨_, List.getElem?_eq_getElem (by rw [HLB.out.hn]; exact hlt)⟩
          obtain ⟨a1, c1, hcl, -, -, -, -⟩ := HLB.out.atG (s := 3) (fun _ _ => rfl) ht
          have x0 : wl.cell? ⟨gt, i * 3, none⟩ = some (.slice a1 t.t.length c1) := HX.out.cell (fun z => z) (hcl 0 (by decide) _ rfl)
          have x1 : wl.cell? ⟨gt, i * 3 + 1, none⟩ = some (.int .i64 t.ln) := HX.out.cell (fun z => z) (hcl 1 (by decide) _ rfl)
          have x2 : wl.cell? ⟨gt, i * 3 + 2, none⟩ = some (.int .i64 t.col) := HX.out.cell (fun z => z) (hcl 2 (by decide) _ rfl)
          have HCS := hide (hdC_succ ht ln0)
          rw [HC.out] at HCS
          clear hcl ht HC
          obtain ⟨tt, tln, tcol⟩ := t
          dsimp only at x0 x1 x2 HCS
          obtain ⟨tl, htl⟩ : ∃ z, tt.length = z := ⟨_, rfl⟩
          rw [htl] at x0
          clear htl
          have f1 : (wl.alloc (.cells #[.slice a1 tl c1, .int .i64 tln, .int .i64 tcol] 181)).cell? ⟨wl.heap.size, 1, none⟩ = some (.int .i64 tln) := new_cells wl [.slice a1 tl c1, .int .i64 tln, .int .i64 tcol] 181 1 _ rfl
          have HX2 : Hid (Ex (fun _ => False) w2 (wl.alloc (.cells #[.slice a1 tl c1, .int .i64 tln, .int .i64 tcol] 181))) := HX.out.alloc _
          have HPH2 := hide (HPH.out.keep (Ex.of (be1 wl (.cells #[.slice a1 tl c1, .int .i64 tln, .int .i64 tcol] 181))))
          go_upto_region 12 with fail
          clear x0 x1 x2 HX HPH
          generalize wl.alloc (.cells #[.slice a1 tl c1, .int .i64 tln, .int .i64 tcol] 181) = wt at *
          generalize wl.heap.size = bt at *
          by_cases hl : tln = ln0
          · rw [if_pos hl] at HCS
            have hlb : (tln == ln0) = true := by simp [hl]
            clear hl
            go_wp2
            go_roundw
            case rel => exact ⟨i + 1, h + 1, by go_num, by go_num, by omega, by omega, HCS, HPH2, HX2⟩
            case measure => (simp [intOf]; try omega)
          · rw [if_neg hl] at HCS
            have hlb : (tln == ln0) = false := by simp [hl]
            clear hl
            go_wp2
            go_roundw
            case rel => exact ⟨i + 1, h, by go_num, rfl, by omega, by omega, HCS, HPH2, HX2⟩
            case measure => (simp [intOf]; try omega)
        · have hib : decide ((i : Int) < (nt : Int)) = false := decide_eq_false (by omega)
          have hin : ¬ (i : Int) < (nt : Int) := by omega
          rw [List.take_of_length_le (by rw [HLB.out.hn]; omega)] at HC
          rw [HC.out] at HR
          have hhn : h ≤ nt := by omega
          clear hw1 hw2 hhi0 HC hlt
          go_upto_region 15 with fail
          clear hib hin hi
          by_cases hh2 : h < 2
          · rw [if_pos hh2] at HR
            have hhb : decide ((h : Int) < 2) = true := decide_eq_true (by omega)
            have hhi : (h : Int) < 2 := by omega
            clear hh2
            go_upto_region 16 with fail
            have HK0 : Hid ((ErN N) wl.drew) := ⟨HPH.out.n0, HPH.out.n1⟩
            refine wp_region_held_drew (S := ErN N) (by kernel_rfl) HK0.out (fun hHeld => ?_)
            refine wpAnyH_take (i := 0) (v := ?_) rfl (by kernel_rfl) (by kernel_rfl) (by kernel_rfl) (fun _ _ _ h => h) (Or.inl ⟨by rfl, ?_⟩) (by assumption) ?_
            rotate_left
            · (intro w hSw; (try dsimp only at hSw); (obtain ⟨z0, z1⟩ := hSw); go_simp; try (with_reducible rfl))
            try simp only [Act.put, List.getElem_toArray, List.getElem_cons_zero, List.getElem_cons_succ, List.setIfInBounds_toArray, List.set_cons_zero, List.set_cons_succ]
            refine wpAnyH_take (i := 1) (v := ?_) rfl (by kernel_rfl) (by kernel_rfl) (by kernel_rfl) (fun _ _ _ h => h) (Or.inl ⟨by rfl, ?_⟩) (by assumption) ?_
            rotate_left
            · (intro w hSw; (try dsimp only at hSw); go_simp; try (with_reducible rfl))
            try simp only [Act.put, List.getElem_toArray, List.getElem_cons_zero, List.getElem_cons_succ, List.setIfInBounds_toArray, List.set_cons_zero, List.set_cons_succ]
            refine wpAnyH_take (i := 2) (v := ?_) rfl (by kernel_rfl) (by kernel_rfl) (by kernel_rfl) (fun _ _ _ h => h) (Or.inl ⟨by rfl, ?_⟩) (by assumption) ?_
            rotate_left
            · (intro w hSw; (try dsimp only at hSw); go_simp; try (with_reducible rfl))
            try simp only [Act.put, List.getElem_toArray, List.getElem_cons_zero, List.getElem_cons_succ, List.setIfInBounds_toArray, List.set_cons_zero, List.set_cons_succ]
            refine wpAnyH_ready (rs := [3]) (by kernel_rfl) (by simp) ?_
            refine (AllReadyH.cons rfl (fun K hK => ?_) AllReadyH.nil)
            · have cc := hide (C140.out wl.drew ((HEw.out.trans (HX.out)).drew))
              refine step_call rfl 140 #[.int .i64 7, .slice a00 X.length c, .int .i64 ln0] (by simp [go_sem]) cc.out ?_
              rintro e wy ⟨rfl, hy⟩
              clear cc
              have HPy := hide ((HPH.out.keep ((Ex.refl (fun _ => False) wl).drew)).keep hy)
              have K1 := hide (HK0.out.ex hy (fun z => z))
              have K2 := hide (K1.out.ex (erA_ex wy a) (fun z => HPH.out.na z))
              have K3 := hide (K2.out.ex (erB_ex (erA wy a) b 7 ln0 e0) (fun z => HPH.out.nb z))
              have HPO := hide (HPbad.out 7 ln0 e0 _ HR.out (HPy.out.fin 7 ln0 e0))
              have a0 := HPy.out.a0
              have a1 := HPy.out.a1
              have af := HPy.out.af
              have b0 := HPy.out.b0
              have b1 := HPy.out.b1
              have b2 := HPy.out.b2
              have bf := HPy.out.bf
              have hab := HPy.out.ab
              have hba : b ≠ a := fun z => hab z.symm
              unfold erA at K2
              unfold erB erA at K3 HPO
              unfold fltV at HPO ⊢
              clear HPy
              refine ⟨_, rfl, ?_⟩
              refine hK.out _ _ ?_ (fun hHeld => ?_)
              · (first | with_reducible exact K1.out | with_reducible exact K2.out | with_reducible exact K3.out)
              clear hK K
              try simp only [Act.put, List.getElem_toArray, List.getElem_cons_zero, List.getElem_cons_succ, List.setIfInBounds_toArray, List.set_cons_zero, List.set_cons_succ]
              refine wpAnyH_ready (rs := [4]) (by kernel_rfl) (by simp) ?_
              refine (AllReadyH.cons rfl (fun K hK => ?_) AllReadyH.nil)
              · go_simp
                refine hK.out _ _ ?_ (fun hHeld => ?_)
                · (first | with_reducible exact K1.out | with_reducible exact K2.out | with_reducible exact K3.out)
                clear hK K
                try simp only [Act.put, List.getElem_toArray, List.getElem_cons_zero, List.getElem_cons_succ, List.setIfInBounds_toArray, List.set_cons_zero, List.set_cons_succ]
                refine wpAnyH_ready (rs := [5]) (by kernel_rfl) (by simp) ?_
                refine (AllReadyH.cons rfl (fun K hK => ?_) AllReadyH.nil)
                · go_simp
                  refine hK.out _ _ ?_ (fun hHeld => ?_)
                  · (first | with_reducible exact K1.out | with_reducible exact K2.out | with_reducible exact K3.out)
                  clear hK K
                  try simp only [Act.put, List.getElem_toArray, List.getElem_cons_zero, List.getElem_cons_succ, List.setIfInBounds_toArray, List.set_cons_zero, List.set_cons_succ]
                  refine wpAnyH_done (by kernel_rfl) ?_ _
                  clear K1 K2 K3 HK0 HPok HPbad
                  go_wp2_with (with_reducible refine bodyPost_ret (v := .tuple #[.agg #[.int .i64 0, .slice none 0 0], .agg #[.int .i64 7, .int .i64 ln0, .int .i64 e0]]) ?hr ?hd ?hp)
                  case hr => simp [results, Tryz.results88, go_sem, a0, a1, b0, b1, b2, hab, hba]
                  case hd => rfl
                  case hp => exact HPO.out
          · rw [if_neg hh2] at HR
            have hhb2 : decide ((h : Int) < 2) = false := decide_eq_false (by omega)
            have hhi2 : ¬ (h : Int) < 2 := by omega
            have hj1 : 1 < nt := by omega
            have hji1 : (1 : Int) < (nt : Int) := by omega
            obtain ⟨a11, c11, hcl, hik, hcc, hcm, -⟩ := HLB.out.atG (s := 3) (fun _ _ => rfl) (tg_at (Ts := Ts) (i := 1) (by rw [HLB.out.hn]; omega))
            obtain ⟨T1, hT1⟩ : ∃ z, tg Ts 1 = z := ⟨_, rfl⟩
            rw [hT1] at hcl hik hcc
            have HT1 := hide hT1
            have HTL1 : Hid (T1.t.length ≤ 1000000000) := HTT.out _ (by rw [← hT1]; exact List.mem_of_getElem? (tg_at (by rw [HLB.out.hn]; omega)))
            clear hT1
            obtain ⟨tt1, ln1, col1⟩ := T1
            dsimp only [t3] at hcl hik hcc HTL1
            obtain ⟨tl1, htl1⟩ : ∃ z, tt1.length = z := ⟨_, rfl⟩
            have HQ1 : Hid ((∀ wx, Ex (fun _ => False) w2 wx → UL wx a11 tt1 ∧ wx.cell? ⟨gt, 3, none⟩ = some (.slice a11 tl1 c11) ∧ wx.cell? ⟨gt, 4, none⟩ = some (.int .i64 ln1) ∧ wx.cell? ⟨gt, 5, none⟩ = some (.int .i64 col1)) ∧ tt1.length = tl1 ∧ tl1 ≤ c11 ∧ c11 ≤ maxLen ∧ tl1 ≤ 1000000000) := ⟨fun wx e => ⟨(hik.keep e (fun _ _ _ z => z)).ul, e.cell (fun z => z) (by rw [← htl1]; exact hcl 0 (by decide) _ rfl), e.cell (fun z => z) (hcl 1 (by decide) _ rfl), e.cell (fun z => z) (hcl 2 (by decide) _ rfl)⟩, htl1, by rw [← htl1]; exact hcc, hcm, by rw [← htl1]; exact HTL1.out⟩
            clear hcl hik hcc hcm htl1 HTL1
            rw [HT1.out] at HR
            dsimp only at HR
            obtain ⟨hu, x0, x1, x2⟩ := HQ1.out.1 wl HX.out
            have cc : Hid (Calls Tryz.prog 138 #[.agg #[.slice a11 tl1 c11, .int .i64 ln1, .int .i64 col1], .int .u8 99, .int .u8 110, .int .u8 102] wl (ExPost wl (.bool (tt1 == [99, 110, 102])))) := by have := is3M_any wl a11 c11 tt1 ln1 col1 hu (by rw [HQ1.out.2.1]; exact HQ1.out.2.2.2.2); rw [HQ1.out.2.1] at this; exact this
            obtain ⟨bz, hbz⟩ : ∃ z, (tt1 == [99, 110, 102]) = z := ⟨_, rfl⟩
            rw [hbz] at cc HR
            clear hbz hu
            go_wp2_with fail
            refine cc.out.mono ?_
            rintro e w6 ⟨rfl, hz⟩
            clear cc x0 x1 x2
            replace HPH := hide (HPH.out.keep hz)
            replace HX := hide (HX.out.trans hz)
            clear hz
            cases bz
            · rw [if_neg (by simp)] at HR
              obtain ⟨-, y0, y1, y2⟩ := HQ1.out.1 _ HX.out
              go_upto_region 18 with fail
              have HK0 : Hid ((ErT N gt (3) (.slice a11 tl1 c11) ln1 col1) w6.drew) := ⟨HPH.out.n0, HPH.out.n1, y0, y1, y2⟩
              refine wp_region_held_drew (S := ErT N gt (3) (.slice a11 tl1 c11) ln1 col1) (by kernel_rfl) HK0.out (fun hHeld => ?_)
              refine wpAnyH_take (i := 0) (v := ?_) rfl (by kernel_rfl) (by kernel_rfl) (by kernel_rfl) (fun _ _ _ h => h) (Or.inl ⟨by rfl, ?_⟩) (by assumption) ?_
              rotate_left
              · (intro w hSw; (try dsimp only at hSw); (obtain ⟨z0, z1, z2, z3, z4⟩ := hSw; simp only [Nat.reduceAdd] at z2 z3 z4); go_simp; try (with_reducible rfl))
              try simp only [Act.put, List.getElem_toArray, List.getElem_cons_zero, List.getElem_cons_succ, List.setIfInBounds_toArray, List.set_cons_zero, List.set_cons_succ]
              refine wpAnyH_take (i := 1) (v := ?_) rfl (by kernel_rfl) (by kernel_rfl) (by kernel_rfl) (fun _ _ _ h => h) (Or.inl ⟨by rfl, ?_⟩) (by assumption) ?_
              rotate_left
              · (intro w hSw; (try dsimp only at hSw); go_simp; try (with_reducible rfl))
              try simp only [Act.put, List.getElem_toArray, List.getElem_cons_zero, List.getElem_cons_succ, List.setIfInBounds_toArray, List.set_cons_zero, List.set_cons_succ]
              refine wpAnyH_take (i := 2) (v := ?_) rfl (by kernel_rfl) (by kernel_rfl) (by kernel_rfl) (fun _ _ _ h => h) (Or.inl ⟨by rfl, ?_⟩) (by assumption) ?_
              rotate_left
              · (intro w hSw; (try dsimp only at hSw); go_simp; try (with_reducible rfl))
              try simp only [Act.put, List.getElem_toArray, List.getElem_cons_zero, List.getElem_cons_succ, List.setIfInBounds_toArray, List.set_cons_zero, List.set_cons_succ]
              refine wpAnyH_take (i := 3) (v := ?_) rfl (by kernel_rfl) (by kernel_rfl) (by kernel_rfl) (fun _ _ _ h => h) (Or.inl ⟨by rfl, ?_⟩) (by assumption) ?_
              rotate_left
              · (intro w hSw; (try dsimp only at hSw); (obtain ⟨z0, z1, z2, z3, z4⟩ := hSw; simp only [Nat.reduceAdd] at z2 z3 z4); go_simp; try (with_reducible rfl))
              try simp only [Act.put, List.getElem_toArray, List.getElem_cons_zero, List.getElem_cons_succ, List.setIfInBounds_toArray, List.set_cons_zero, List.set_cons_succ]
              refine wpAnyH_ready (rs := [4]) (by kernel_rfl) (by simp) ?_
              refine (AllReadyH.cons rfl (fun K hK => ?_) AllReadyH.nil)
              · have cc := hide (atM_any w6.drew (.slice a11 tl1 c11) ⟨_, _, _, rfl⟩ 7 ln1 col1)
                refine step_call rfl 139 #[.int .i64 7, .agg #[.slice a11 tl1 c11, .int .i64 ln1, .int .i64 col1]] (by simp [go_sem]) cc.out ?_
                rintro e wy ⟨rfl, hy⟩
                clear cc
                have HPy := hide ((HPH.out.keep ((Ex.refl (fun _ => False) w6).drew)).keep hy)
                have K1 := hide (HK0.out.ex hy (fun z => z) (fun z => z))
                have K2 := hide (K1.out.ex (erA_ex wy a) (fun z => HPH.out.na z) (fun z => HGT.out.1 z))
                have K3 := hide (K2.out.ex (erB_ex (erA wy a) b 7 ln1 col1) (fun z => HPH.out.nb z) (fun z => HGT.out.2 z))
                have HPO := hide (HPbad.out 7 ln1 col1 _ HR.out (HPy.out.fin 7 ln1 col1))
                have a0 := HPy.out.a0
                have a1 := HPy.out.a1
                have af := HPy.out.af
                have b0 := HPy.out.b0
                have b1 := HPy.out.b1
                have b2 := HPy.out.b2
                have bf := HPy.out.bf
                have hab := HPy.out.ab
                have hba : b ≠ a := fun z => hab z.symm
                unfold erA at K2
                unfold erB erA at K3 HPO
                unfold fltV at HPO ⊢
                clear HPy
                refine ⟨_, rfl, ?_⟩
                refine hK.out _ _ ?_ (fun hHeld => ?_)
                · (first | with_reducible exact K1.out | with_reducible exact K2.out | with_reducible exact K3.out)
                clear hK K
                try simp only [Act.put, List.getElem_toArray, List.getElem_cons_zero, List.getElem_cons_succ, List.setIfInBounds_toArray, List.set_cons_zero, List.set_cons_succ]
                refine wpAnyH_ready (rs := [5]) (by kernel_rfl) (by simp) ?_
                refine (AllReadyH.cons rfl (fun K hK => ?_) AllReadyH.nil)
                · go_simp
                  refine hK.out _ _ ?_ (fun hHeld => ?_)
                  · (first | with_reducible exact K1.out | with_reducible exact K2.out | with_reducible exact K3.out)
                  clear hK K
                  try simp only [Act.put, List.getElem_toArray, List.getElem_cons_zero, List.getElem_cons_succ, List.setIfInBounds_toArray, List.set_cons_zero, List.set_cons_succ]
                  refine wpAnyH_ready (rs := [6]) (by kernel_rfl) (by simp) ?_
                  refine (AllReadyH.cons rfl (fun K hK => ?_) AllReadyH.nil)
                  · go_simp
                    refine hK.out _ _ ?_ (fun hHeld => ?_)
                    · (first | with_reducible exact K1.out | with_reducible exact K2.out | with_reducible exact K3.out)
                    clear hK K
                    try simp only [Act.put, List.getElem_toArray, List.getElem_cons_zero, List.getElem_cons_succ, List.setIfInBounds_toArray, List.set_cons_zero, List.set_cons_succ]
                    refine wpAnyH_done (by kernel_rfl) ?_ _
                    clear K1 K2 K3 HK0 HPok HPbad
                    go_wp2_with (with_reducible refine bodyPost_ret (v := .tuple #[.agg #[.int .i64 0, .slice none 0 0], .agg #[.int .i64 7, .int .i64 ln1, .int .i64 col1]]) ?hr ?hd ?hp)
                    case hr => simp [results, Tryz.results88, go_sem, a0, a1, b0, b1, b2, hab, hba]
                    case hd => rfl
                    case hp => exact HPO.out
            · rw [if_pos rfl] at HR
              unfold fm3 at HR
              by_cases hh3 : h < 3
              · rw [if_pos hh3] at HR
                have hhb : decide ((h : Int) < 3) = true := decide_eq_true (by omega)
                have hhi : (h : Int) < 3 := by omega
                clear hh3
                go_upto_region 20 with fail
                have HK0 : Hid ((ErN N) w6.drew) := ⟨HPH.out.n0, HPH.out.n1⟩
                refine wp_region_held_drew (S := ErN N) (by kernel_rfl) HK0.out (fun hHeld => ?_)
                refine wpAnyH_take (i := 0) (v := ?_) rfl (by kernel_rfl) (by kernel_rfl) (by kernel_rfl) (fun _ _ _ h => h) (Or.inl ⟨by rfl, ?_⟩) (by assumption) ?_
                rotate_left
                · (intro w hSw; (try dsimp only at hSw); (obtain ⟨z0, z1⟩ := hSw); go_simp; try (with_reducible rfl))
                try simp only [Act.put, List.getElem_toArray, List.getElem_cons_zero, List.getElem_cons_succ, List.setIfInBounds_toArray, List.set_cons_zero, List.set_cons_succ]
                refine wpAnyH_take (i := 1) (v := ?_) rfl (by kernel_rfl) (by kernel_rfl) (by kernel_rfl) (fun _ _ _ h => h) (Or.inl ⟨by rfl, ?_⟩) (by assumption) ?_
                rotate_left
                · (intro w hSw; (try dsimp only at hSw); go_simp; try (with_reducible rfl))
                try simp only [Act.put, List.getElem_toArray, List.getElem_cons_zero, List.getElem_cons_succ, List.setIfInBounds_toArray, List.set_cons_zero, List.set_cons_succ]
                refine wpAnyH_take (i := 2) (v := ?_) rfl (by kernel_rfl) (by kernel_rfl) (by kernel_rfl) (fun _ _ _ h => h) (Or.inl ⟨by rfl, ?_⟩) (by assumption) ?_
                rotate_left
                · (intro w hSw; (try dsimp only at hSw); go_simp; try (with_reducible rfl))
                try simp only [Act.put, List.getElem_toArray, List.getElem_cons_zero, List.getElem_cons_succ, List.setIfInBounds_toArray, List.set_cons_zero, List.set_cons_succ]
                refine wpAnyH_ready (rs := [3]) (by kernel_rfl) (by simp) ?_
                refine (AllReadyH.cons rfl (fun K hK => ?_) AllReadyH.nil)
                · have cc := hide (C140.out w6.drew ((HEw.out.trans (HX.out)).drew))
                  refine step_call rfl 140 #[.int .i64 7, .slice a00 X.length c, .int .i64 ln0] (by simp [go_sem]) cc.out ?_
                  rintro e wy ⟨rfl, hy⟩
                  clear cc
                  have HPy := hide ((HPH.out.keep ((Ex.refl (fun _ => False) w6).drew)).keep hy)
                  have K1 := hide (HK0.out.ex hy (fun z => z))
                  have K2 := hide (K1.out.ex (erA_ex wy a) (fun z => HPH.out.na z))
                  have K3 := hide (K2.out.ex (erB_ex (erA wy a) b 7 ln0 e0) (fun z => HPH.out.nb z))
                  have HPO := hide (HPbad.out 7 ln0 e0 _ HR.out (HPy.out.fin 7 ln0 e0))
                  have a0 := HPy.out.a0
                  have a1 := HPy.out.a1
                  have af := HPy.out.af
                  have b0 := HPy.out.b0
                  have b1 := HPy.out.b1
                  have b2 := HPy.out.b2
                  have bf := HPy.out.bf
                  have hab := HPy.out.ab
                  have hba : b ≠ a := fun z => hab z.symm
                  unfold erA at K2
                  unfold erB erA at K3 HPO
                  unfold fltV at HPO ⊢
                  clear HPy
                  refine ⟨_, rfl, ?_⟩
                  refine hK.out _ _ ?_ (fun hHeld => ?_)
                  · (first | with_reducible exact K1.out | with_reducible exact K2.out | with_reducible exact K3.out)
                  clear hK K
                  try simp only [Act.put, List.getElem_toArray, List.getElem_cons_zero, List.getElem_cons_succ, List.setIfInBounds_toArray, List.set_cons_zero, List.set_cons_succ]
                  refine wpAnyH_ready (rs := [4]) (by kernel_rfl) (by simp) ?_
                  refine (AllReadyH.cons rfl (fun K hK => ?_) AllReadyH.nil)
                  · go_simp
                    refine hK.out _ _ ?_ (fun hHeld => ?_)
                    · (first | with_reducible exact K1.out | with_reducible exact K2.out | with_reducible exact K3.out)
                    clear hK K
                    try simp only [Act.put, List.getElem_toArray, List.getElem_cons_zero, List.getElem_cons_succ, List.setIfInBounds_toArray, List.set_cons_zero, List.set_cons_succ]
                    refine wpAnyH_ready (rs := [5]) (by kernel_rfl) (by simp) ?_
                    refine (AllReadyH.cons rfl (fun K hK => ?_) AllReadyH.nil)
                    · go_simp
                      refine hK.out _ _ ?_ (fun hHeld => ?_)
                      · (first | with_reducible exact K1.out | with_reducible exact K2.out | with_reducible exact K3.out)
                      clear hK K
                      try simp only [Act.put, List.getElem_toArray, List.getElem_cons_zero, List.getElem_cons_succ, List.setIfInBounds_toArray, List.set_cons_zero, List.set_cons_succ]
                      refine wpAnyH_done (by kernel_rfl) ?_ _
                      clear K1 K2 K3 HK0 HPok HPbad
                      go_wp2_with (with_reducible refine bodyPost_ret (v := .tuple #[.agg #[.int .i64 0, .slice none 0 0], .agg #[.int .i64 7, .int .i64 ln0, .int .i64 e0]]) ?hr ?hd ?hp)
                      case hr => simp [results, Tryz.results88, go_sem, a0, a1, b0, b1, b2, hab, hba]
                      case hd => rfl
                      case hp => exact HPO.out
              · rw [if_neg hh3] at HR
                have hhb3 : decide ((h : Int) < 3) = false := decide_eq_false (by omega)
                have hhi3 : ¬ (h : Int) < 3 := by omega
                have hj2 : 2 < nt := by omega
                have hji2 : (2 : Int) < (nt : Int) := by omega
                obtain ⟨a21, c21, hcl, hik, hcc, hcm, -⟩ := HLB.out.atG (s := 3) (fun _ _ => rfl) (tg_at (Ts := Ts) (i := 2) (by rw [HLB.out.hn]; omega))
                obtain ⟨T2, hT2⟩ : ∃ z, tg Ts 2 = z := ⟨_, rfl⟩
                rw [hT2] at hcl hik hcc
                have HT2 := hide hT2
                have HTL2 : Hid (T2.t.length ≤ 1000000000) := HTT.out _ (by rw [← hT2]; exact List.mem_of_getElem? (tg_at (by rw [HLB.out.hn]; omega)))
                clear hT2
                obtain ⟨tt2, ln2, col2⟩ := T2
                dsimp only [t3] at hcl hik hcc HTL2
                obtain ⟨tl2, htl2⟩ : ∃ z, tt2.length = z := ⟨_, rfl⟩
                have HQ2 : Hid ((∀ wx, Ex (fun _ => False) w2 wx → UL wx a21 tt2 ∧ wx.cell? ⟨gt, 6, none⟩ = some (.slice a21 tl2 c21) ∧ wx.cell? ⟨gt, 7, none⟩ = some (.int .i64 ln2) ∧ wx.cell? ⟨gt, 8, none⟩ = some (.int .i64 col2)) ∧ tt2.length = tl2 ∧ tl2 ≤ c21 ∧ c21 ≤ maxLen ∧ tl2 ≤ 1000000000) := ⟨fun wx e => ⟨(hik.keep e (fun _ _ _ z => z)).ul, e.cell (fun z => z) (by rw [← htl2]; exact hcl 0 (by decide) _ rfl), e.cell (fun z => z) (hcl 1 (by decide) _ rfl), e.cell (fun z => z) (hcl 2 (by decide) _ rfl)⟩, htl2, by rw [← htl2]; exact hcc, hcm, by rw [← htl2]; exact HTL2.out⟩
                clear hcl hik hcc hcm htl2 HTL2
                rw [HT2.out] at HR
                dsimp only at HR
                obtain ⟨hu, x0, x1, x2⟩ := HQ2.out.1 w6 HX.out
                have cc : Hid (Calls Tryz.prog 141 #[.slice a21 tl2 c21] w6 fun e w' => e = .returned (.bool (digM tt2)) ∧ w' = w6) := by have := digitsM_any w6 a21 c21 tt2 hu (by rw [HQ2.out.2.1]; have := HQ2.out.2.2.2.2; omega); rw [HQ2.out.2.1] at this; exact this
                have C142 : Hid (digM tt2 = true → Calls Tryz.prog 142 #[.slice a21 tl2 c21, .int .i64 16777215] w6 fun e w' => e = .returned (.int .i64 (numM tt2 16777215)) ∧ w' = w6) := fun hz => by have := numberM_any w6 a21 c21 tt2 16777215 hu (by rw [HQ2.out.2.1]; exact HQ2.out.2.2.1) HQ2.out.2.2.2.1 (digM_all hz); rw [HQ2.out.2.1] at this; exact this
                obtain ⟨bz, hbz⟩ : ∃ z, digM tt2 = z := ⟨_, rfl⟩
                rw [hbz] at cc HR C142
                clear hbz hu
                have HNL : Hid (numM tt2 16777215 ≤ 16777215) := by show _ ≤ _; unfold numM; (split; omega; split <;> omega)
                generalize numM tt2 16777215 = vv at *
                go_wp2_with fail
                refine cc.out.mono ?_
                rintro e wz ⟨rfl, hw⟩
                rw [hw]
                clear cc hw wz
                cases bz
                · rw [if_neg (by simp)] at HR
                  obtain ⟨-, y0, y1, y2⟩ := HQ2.out.1 _ HX.out
                  go_upto_region 22 with fail
                  have HK0 : Hid ((ErT N gt (6) (.slice a21 tl2 c21) ln2 col2) w6.drew) := ⟨HPH.out.n0, HPH.out.n1, y0, y1, y2⟩
                  refine wp_region_held_drew (S := ErT N gt (6) (.slice a21 tl2 c21) ln2 col2) (by kernel_rfl) HK0.out (fun hHeld => ?_)
                  refine wpAnyH_take (i := 0) (v := ?_) rfl (by kernel_rfl) (by kernel_rfl) (by kernel_rfl) (fun _ _ _ h => h) (Or.inl ⟨by rfl, ?_⟩) (by assumption) ?_
                  rotate_left
                  · (intro w hSw; (try dsimp only at hSw); (obtain ⟨z0, z1, z2, z3, z4⟩ := hSw; simp only [Nat.reduceAdd] at z2 z3 z4); go_simp; try (with_reducible rfl))
                  try simp only [Act.put, List.getElem_toArray, List.getElem_cons_zero, List.getElem_cons_succ, List.setIfInBounds_toArray, List.set_cons_zero, List.set_cons_succ]
                  refine wpAnyH_take (i := 1) (v := ?_) rfl (by kernel_rfl) (by kernel_rfl) (by kernel_rfl) (fun _ _ _ h => h) (Or.inl ⟨by rfl, ?_⟩) (by assumption) ?_
                  rotate_left
                  · (intro w hSw; (try dsimp only at hSw); go_simp; try (with_reducible rfl))
                  try simp only [Act.put, List.getElem_toArray, List.getElem_cons_zero, List.getElem_cons_succ, List.setIfInBounds_toArray, List.set_cons_zero, List.set_cons_succ]
                  refine wpAnyH_take (i := 2) (v := ?_) rfl (by kernel_rfl) (by kernel_rfl) (by kernel_rfl) (fun _ _ _ h => h) (Or.inl ⟨by rfl, ?_⟩) (by assumption) ?_
                  rotate_left
                  · (intro w hSw; (try dsimp only at hSw); go_simp; try (with_reducible rfl))
                  try simp only [Act.put, List.getElem_toArray, List.getElem_cons_zero, List.getElem_cons_succ, List.setIfInBounds_toArray, List.set_cons_zero, List.set_cons_succ]
                  refine wpAnyH_take (i := 3) (v := ?_) rfl (by kernel_rfl) (by kernel_rfl) (by kernel_rfl) (fun _ _ _ h => h) (Or.inl ⟨by rfl, ?_⟩) (by assumption) ?_
                  rotate_left
                  · (intro w hSw; (try dsimp only at hSw); (obtain ⟨z0, z1, z2, z3, z4⟩ := hSw; simp only [Nat.reduceAdd] at z2 z3 z4); go_simp; try (with_reducible rfl))
                  try simp only [Act.put, List.getElem_toArray, List.getElem_cons_zero, List.getElem_cons_succ, List.setIfInBounds_toArray, List.set_cons_zero, List.set_cons_succ]
                  refine wpAnyH_ready (rs := [4]) (by kernel_rfl) (by simp) ?_
                  refine (AllReadyH.cons rfl (fun K hK => ?_) AllReadyH.nil)
                  · have cc := hide (atM_any w6.drew (.slice a21 tl2 c21) ⟨_, _, _, rfl⟩ 7 ln2 col2)
                    refine step_call rfl 139 #[.int .i64 7, .agg #[.slice a21 tl2 c21, .int .i64 ln2, .int .i64 col2]] (by simp [go_sem]) cc.out ?_
                    rintro e wy ⟨rfl, hy⟩
                    clear cc
                    have HPy := hide ((HPH.out.keep ((Ex.refl (fun _ => False) w6).drew)).keep hy)
                    have K1 := hide (HK0.out.ex hy (fun z => z) (fun z => z))
                    have K2 := hide (K1.out.ex (erA_ex wy a) (fun z => HPH.out.na z) (fun z => HGT.out.1 z))
                    have K3 := hide (K2.out.ex (erB_ex (erA wy a) b 7 ln2 col2) (fun z => HPH.out.nb z) (fun z => HGT.out.2 z))
                    have HPO := hide (HPbad.out 7 ln2 col2 _ HR.out (HPy.out.fin 7 ln2 col2))
                    have a0 := HPy.out.a0
                    have a1 := HPy.out.a1
                    have af := HPy.out.af
                    have b0 := HPy.out.b0
                    have b1 := HPy.out.b1
                    have b2 := HPy.out.b2
                    have bf := HPy.out.bf
                    have hab := HPy.out.ab
                    have hba : b ≠ a := fun z => hab z.symm
                    unfold erA at K2
                    unfold erB erA at K3 HPO
                    unfold fltV at HPO ⊢
                    clear HPy
                    refine ⟨_, rfl, ?_⟩
                    refine hK.out _ _ ?_ (fun hHeld => ?_)
                    · (first | with_reducible exact K1.out | with_reducible exact K2.out | with_reducible exact K3.out)
                    clear hK K
                    try simp only [Act.put, List.getElem_toArray, List.getElem_cons_zero, List.getElem_cons_succ, List.setIfInBounds_toArray, List.set_cons_zero, List.set_cons_succ]
                    refine wpAnyH_ready (rs := [5]) (by kernel_rfl) (by simp) ?_
                    refine (AllReadyH.cons rfl (fun K hK => ?_) AllReadyH.nil)
                    · go_simp
                      refine hK.out _ _ ?_ (fun hHeld => ?_)
                      · (first | with_reducible exact K1.out | with_reducible exact K2.out | with_reducible exact K3.out)
                      clear hK K
                      try simp only [Act.put, List.getElem_toArray, List.getElem_cons_zero, List.getElem_cons_succ, List.setIfInBounds_toArray, List.set_cons_zero, List.set_cons_succ]
                      refine wpAnyH_ready (rs := [6]) (by kernel_rfl) (by simp) ?_
                      refine (AllReadyH.cons rfl (fun K hK => ?_) AllReadyH.nil)
                      · go_simp
                        refine hK.out _ _ ?_ (fun hHeld => ?_)
                        · (first | with_reducible exact K1.out | with_reducible exact K2.out | with_reducible exact K3.out)
                        clear hK K
                        try simp only [Act.put, List.getElem_toArray, List.getElem_cons_zero, List.getElem_cons_succ, List.setIfInBounds_toArray, List.set_cons_zero, List.set_cons_succ]
                        refine wpAnyH_done (by kernel_rfl) ?_ _
                        clear K1 K2 K3 HK0 HPok HPbad
                        go_wp2_with (with_reducible refine bodyPost_ret (v := .tuple #[.agg #[.int .i64 0, .slice none 0 0], .agg #[.int .i64 7, .int .i64 ln2, .int .i64 col2]]) ?hr ?hd ?hp)
                        case hr => simp [results, Tryz.results88, go_sem, a0, a1, b0, b1, b2, hab, hba]
                        case hd => rfl
                        case hp => exact HPO.out
                · rw [if_pos rfl] at HR
                  have cc := hide (C142.out rfl)
                  clear C142
                  go_wp2_with fail
                  refine cc.out.mono ?_
                  rintro e wz ⟨rfl, hw⟩
                  rw [hw]
                  clear cc hw wz
                  by_cases hv : vv < 0
                  · rw [if_pos hv] at HR
                    have hvb : decide (vv < 0) = true := decide_eq_true hv
                    obtain ⟨-, y0, y1, y2⟩ := HQ2.out.1 _ HX.out
                    go_upto_region 25 with fail
                    have HK0 : Hid ((ErT N gt (6) (.slice a21 tl2 c21) ln2 col2) w6.drew) := ⟨HPH.out.n0, HPH.out.n1, y0, y1, y2⟩
                    refine wp_region_held_drew (S := ErT N gt (6) (.slice a21 tl2 c21) ln2 col2) (by kernel_rfl) HK0.out (fun hHeld => ?_)
                    refine wpAnyH_take (i := 0) (v := ?_) rfl (by kernel_rfl) (by kernel_rfl) (by kernel_rfl) (fun _ _ _ h => h) (Or.inl ⟨by rfl, ?_⟩) (by assumption) ?_
                    rotate_left
                    · (intro w hSw; (try dsimp only at hSw); (obtain ⟨z0, z1, z2, z3, z4⟩ := hSw; simp only [Nat.reduceAdd] at z2 z3 z4); go_simp; try (with_reducible rfl))
                    try simp only [Act.put, List.getElem_toArray, List.getElem_cons_zero, List.getElem_cons_succ, List.setIfInBounds_toArray, List.set_cons_zero, List.set_cons_succ]
                    refine wpAnyH_take (i := 1) (v := ?_) rfl (by kernel_rfl) (by kernel_rfl) (by kernel_rfl) (fun _ _ _ h => h) (Or.inl ⟨by rfl, ?_⟩) (by assumption) ?_
                    rotate_left
                    · (intro w hSw; (try dsimp only at hSw); go_simp; try (with_reducible rfl))
                    try simp only [Act.put, List.getElem_toArray, List.getElem_cons_zero, List.getElem_cons_succ, List.setIfInBounds_toArray, List.set_cons_zero, List.set_cons_succ]
                    refine wpAnyH_take (i := 2) (v := ?_) rfl (by kernel_rfl) (by kernel_rfl) (by kernel_rfl) (fun _ _ _ h => h) (Or.inl ⟨by rfl, ?_⟩) (by assumption) ?_
                    rotate_left
                    · (intro w hSw; (try dsimp only at hSw); go_simp; try (with_reducible rfl))
                    try simp only [Act.put, List.getElem_toArray, List.getElem_cons_zero, List.getElem_cons_succ, List.setIfInBounds_toArray, List.set_cons_zero, List.set_cons_succ]
                    refine wpAnyH_take (i := 3) (v := ?_) rfl (by kernel_rfl) (by kernel_rfl) (by kernel_rfl) (fun _ _ _ h => h) (Or.inl ⟨by rfl, ?_⟩) (by assumption) ?_
                    rotate_left
                    · (intro w hSw; (try dsimp only at hSw); (obtain ⟨z0, z1, z2, z3, z4⟩ := hSw; simp only [Nat.reduceAdd] at z2 z3 z4); go_simp; try (with_reducible rfl))
                    try simp only [Act.put, List.getElem_toArray, List.getElem_cons_zero, List.getElem_cons_succ, List.setIfInBounds_toArray, List.set_cons_zero, List.set_cons_succ]
                    refine wpAnyH_ready (rs := [4]) (by kernel_rfl) (by simp) ?_
                    refine (AllReadyH.cons rfl (fun K hK => ?_) AllReadyH.nil)
                    · have cc := hide (atM_any w6.drew (.slice a21 tl2 c21) ⟨_, _, _, rfl⟩ 3 ln2 col2)
                      refine step_call rfl 139 #[.int .i64 3, .agg #[.slice a21 tl2 c21, .int .i64 ln2, .int .i64 col2]] (by simp [go_sem]) cc.out ?_
                      rintro e wy ⟨rfl, hy⟩
                      clear cc
                      have HPy := hide ((HPH.out.keep ((Ex.refl (fun _ => False) w6).drew)).keep hy)
                      have K1 := hide (HK0.out.ex hy (fun z => z) (fun z => z))
                      have K2 := hide (K1.out.ex (erA_ex wy a) (fun z => HPH.out.na z) (fun z => HGT.out.1 z))
                      have K3 := hide (K2.out.ex (erB_ex (erA wy a) b 3 ln2 col2) (fun z => HPH.out.nb z) (fun z => HGT.out.2 z))
                      have HPO := hide (HPbad.out 3 ln2 col2 _ HR.out (HPy.out.fin 3 ln2 col2))
                      have a0 := HPy.out.a0
                      have a1 := HPy.out.a1
                      have af := HPy.out.af
                      have b0 := HPy.out.b0
                      have b1 := HPy.out.b1
                      have b2 := HPy.out.b2
                      have bf := HPy.out.bf
                      have hab := HPy.out.ab
                      have hba : b ≠ a := fun z => hab z.symm
                      unfold erA at K2
                      unfold erB erA at K3 HPO
                      unfold fltV at HPO ⊢
                      clear HPy
                      refine ⟨_, rfl, ?_⟩
                      refine hK.out _ _ ?_ (fun hHeld => ?_)
                      · (first | with_reducible exact K1.out | with_reducible exact K2.out | with_reducible exact K3.out)
                      clear hK K
                      try simp only [Act.put, List.getElem_toArray, List.getElem_cons_zero, List.getElem_cons_succ, List.setIfInBounds_toArray, List.set_cons_zero, List.set_cons_succ]
                      refine wpAnyH_ready (rs := [5]) (by kernel_rfl) (by simp) ?_
                      refine (AllReadyH.cons rfl (fun K hK => ?_) AllReadyH.nil)
                      · go_simp
                        refine hK.out _ _ ?_ (fun hHeld => ?_)
                        · (first | with_reducible exact K1.out | with_reducible exact K2.out | with_reducible exact K3.out)
                        clear hK K
                        try simp only [Act.put, List.getElem_toArray, List.getElem_cons_zero, List.getElem_cons_succ, List.setIfInBounds_toArray, List.set_cons_zero, List.set_cons_succ]
                        refine wpAnyH_ready (rs := [6]) (by kernel_rfl) (by simp) ?_
                        refine (AllReadyH.cons rfl (fun K hK => ?_) AllReadyH.nil)
                        · go_simp
                          refine hK.out _ _ ?_ (fun hHeld => ?_)
                          · (first | with_reducible exact K1.out | with_reducible exact K2.out | with_reducible exact K3.out)
                          clear hK K
                          try simp only [Act.put, List.getElem_toArray, List.getElem_cons_zero, List.getElem_cons_succ, List.setIfInBounds_toArray, List.set_cons_zero, List.set_cons_succ]
                          refine wpAnyH_done (by kernel_rfl) ?_ _
                          clear K1 K2 K3 HK0 HPok HPbad
                          go_wp2_with (with_reducible refine bodyPost_ret (v := .tuple #[.agg #[.int .i64 0, .slice none 0 0], .agg #[.int .i64 3, .int .i64 ln2, .int .i64 col2]]) ?hr ?hd ?hp)
                          case hr => simp [results, Tryz.results88, go_sem, a0, a1, b0, b1, b2, hab, hba]
                          case hd => rfl
                          case hp => exact HPO.out
                  · rw [if_neg hv] at HR
                    have hvvb : decide (vv < 0) = false := decide_eq_false hv
                    have hvv := hv
                    clear hv x0 x1 x2
                    have hvvl := HNL.out
                    clear HNL
                    unfold fm4 at HR
                    by_cases hh4 : h < 4
                    · rw [if_pos hh4] at HR
                      have hhb : decide ((h : Int) < 4) = true := decide_eq_true (by omega)
                      have hhi : (h : Int) < 4 := by omega
                      clear hh4
                      go_upto_region 27 with fail
                      have HK0 : Hid ((ErN N) w6.drew) := ⟨HPH.out.n0, HPH.out.n1⟩
                      refine wp_region_held_drew (S := ErN N) (by kernel_rfl) HK0.out (fun hHeld => ?_)
                      refine wpAnyH_take (i := 0) (v := ?_) rfl (by kernel_rfl) (by kernel_rfl) (by kernel_rfl) (fun _ _ _ h => h) (Or.inl ⟨by rfl, ?_⟩) (by assumption) ?_
                      rotate_left
                      · (intro w hSw; (try dsimp only at hSw); (obtain ⟨z0, z1⟩ := hSw); go_simp; try (with_reducible rfl))
                      try simp only [Act.put, List.getElem_toArray, List.getElem_cons_zero, List.getElem_cons_succ, List.setIfInBounds_toArray, List.set_cons_zero, List.set_cons_succ]
                      refine wpAnyH_take (i := 1) (v := ?_) rfl (by kernel_rfl) (by kernel_rfl) (by kernel_rfl) (fun _ _ _ h => h) (Or.inl ⟨by rfl, ?_⟩) (by assumption) ?_
                      rotate_left
                      · (intro w hSw; (try dsimp only at hSw); go_simp; try (with_reducible rfl))
                      try simp only [Act.put, List.getElem_toArray, List.getElem_cons_zero, List.getElem_cons_succ, List.setIfInBounds_toArray, List.set_cons_zero, List.set_cons_succ]
                      refine wpAnyH_take (i := 2) (v := ?_) rfl (by kernel_rfl) (by kernel_rfl) (by kernel_rfl) (fun _ _ _ h => h) (Or.inl ⟨by rfl, ?_⟩) (by assumption) ?_
                      rotate_left
                      · (intro w hSw; (try dsimp only at hSw); go_simp; try (with_reducible rfl))
                      try simp only [Act.put, List.getElem_toArray, List.getElem_cons_zero, List.getElem_cons_succ, List.setIfInBounds_toArray, List.set_cons_zero, List.set_cons_succ]
                      refine wpAnyH_ready (rs := [3]) (by kernel_rfl) (by simp) ?_
                      refine (AllReadyH.cons rfl (fun K hK => ?_) AllReadyH.nil)
                      · have cc := hide (C140.out w6.drew ((HEw.out.trans (HX.out)).drew))
                        refine step_call rfl 140 #[.int .i64 7, .slice a00 X.length c, .int .i64 ln0] (by simp [go_sem]) cc.out ?_
                        rintro e wy ⟨rfl, hy⟩
                        clear cc
                        have HPy := hide ((HPH.out.keep ((Ex.refl (fun _ => False) w6).drew)).keep hy)
                        have K1 := hide (HK0.out.ex hy (fun z => z))
                        have K2 := hide (K1.out.ex (erA_ex wy a) (fun z => HPH.out.na z))
                        have K3 := hide (K2.out.ex (erB_ex (erA wy a) b 7 ln0 e0) (fun z => HPH.out.nb z))
                        have HPO := hide (HPbad.out 7 ln0 e0 _ HR.out (HPy.out.fin 7 ln0 e0))
                        have a0 := HPy.out.a0
                        have a1 := HPy.out.a1
                        have af := HPy.out.af
                        have b0 := HPy.out.b0
                        have b1 := HPy.out.b1
                        have b2 := HPy.out.b2
                        have bf := HPy.out.bf
                        have hab := HPy.out.ab
                        have hba : b ≠ a := fun z => hab z.symm
                        unfold erA at K2
                        unfold erB erA at K3 HPO
                        unfold fltV at HPO ⊢
                        clear HPy
                        refine ⟨_, rfl, ?_⟩
                        refine hK.out _ _ ?_ (fun hHeld => ?_)
                        · (first | with_reducible exact K1.out | with_reducible exact K2.out | with_reducible exact K3.out)
                        clear hK K
                        try simp only [Act.put, List.getElem_toArray, List.getElem_cons_zero, List.getElem_cons_succ, List.setIfInBounds_toArray, List.set_cons_zero, List.set_cons_succ]
                        refine wpAnyH_ready (rs := [4]) (by kernel_rfl) (by simp) ?_
                        refine (AllReadyH.cons rfl (fun K hK => ?_) AllReadyH.nil)
                        · go_simp
                          refine hK.out _ _ ?_ (fun hHeld => ?_)
                          · (first | with_reducible exact K1.out | with_reducible exact K2.out | with_reducible exact K3.out)
                          clear hK K
                          try simp only [Act.put, List.getElem_toArray, List.getElem_cons_zero, List.getElem_cons_succ, List.setIfInBounds_toArray, List.set_cons_zero, List.set_cons_succ]
                          refine wpAnyH_ready (rs := [5]) (by kernel_rfl) (by simp) ?_
                          refine (AllReadyH.cons rfl (fun K hK => ?_) AllReadyH.nil)
                          · go_simp
                            refine hK.out _ _ ?_ (fun hHeld => ?_)
                            · (first | with_reducible exact K1.out | with_reducible exact K2.out | with_reducible exact K3.out)
                            clear hK K
                            try simp only [Act.put, List.getElem_toArray, List.getElem_cons_zero, List.getElem_cons_succ, List.setIfInBounds_toArray, List.set_cons_zero, List.set_cons_succ]
                            refine wpAnyH_done (by kernel_rfl) ?_ _
                            clear K1 K2 K3 HK0 HPok HPbad
                            go_wp2_with (with_reducible refine bodyPost_ret (v := .tuple #[.agg #[.int .i64 0, .slice none 0 0], .agg #[.int .i64 7, .int .i64 ln0, .int .i64 e0]]) ?hr ?hd ?hp)
                            case hr => simp [results, Tryz.results88, go_sem, a0, a1, b0, b1, b2, hab, hba]
                            case hd => rfl
                            case hp => exact HPO.out
                    · rw [if_neg hh4] at HR
                      have hhb4 : decide ((h : Int) < 4) = false := decide_eq_false (by omega)
                      have hhi4 : ¬ (h : Int) < 4 := by omega
                      have hj3 : 3 < nt := by omega
                      have hji3 : (3 : Int) < (nt : Int) := by omega
                      obtain ⟨a31, c31, hcl, hik, hcc, hcm, -⟩ := HLB.out.atG (s := 3) (fun _ _ => rfl) (tg_at (Ts := Ts) (i := 3) (by rw [HLB.out.hn]; omega))
                      obtain ⟨T3, hT3⟩ : ∃ z, tg Ts 3 = z := ⟨_, rfl⟩
                      rw [hT3] at hcl hik hcc
                      have HT3 := hide hT3
                      have HTL3 : Hid (T3.t.length ≤ 1000000000) := HTT.out _ (by rw [← hT3]; exact List.mem_of_getElem? (tg_at (by rw [HLB.out.hn]; omega)))
                      clear hT3
                      obtain ⟨tt3, ln3, col3⟩ := T3
                      dsimp only [t3] at hcl hik hcc HTL3
                      obtain ⟨tl3, htl3⟩ : ∃ z, tt3.length = z := ⟨_, rfl⟩
                      have HQ3 : Hid ((∀ wx, Ex (fun _ => False) w2 wx → UL wx a31 tt3 ∧ wx.cell? ⟨gt, 9, none⟩ = some (.slice a31 tl3 c31) ∧ wx.cell? ⟨gt, 10, none⟩ = some (.int .i64 ln3) ∧ wx.cell? ⟨gt, 11, none⟩ = some (.int .i64 col3)) ∧ tt3.length = tl3 ∧ tl3 ≤ c31 ∧ c31 ≤ maxLen ∧ tl3 ≤ 1000000000) := ⟨fun wx e => ⟨(hik.keep e (fun _ _ _ z => z)).ul, e.cell (fun z => z) (by rw [← htl3]; exact hcl 0 (by decide) _ rfl), e.cell (fun z => z) (hcl 1 (by decide) _ rfl), e.cell (fun z => z) (hcl 2 (by decide) _ rfl)⟩, htl3, by rw [← htl3]; exact hcc, hcm, by rw [← htl3]; exact HTL3.out⟩
                      clear hcl hik hcc hcm htl3 HTL3
                      rw [HT3.out] at HR
                      dsimp only at HR
                      obtain ⟨hu, x0, x1, x2⟩ := HQ3.out.1 w6 HX.out
                      have cc : Hid (Calls Tryz.prog 141 #[.slice a31 tl3 c31] w6 fun e w' => e = .returned (.bool (digM tt3)) ∧ w' = w6) := by have := digitsM_any w6 a31 c31 tt3 hu (by rw [HQ3.out.2.1]; have := HQ3.out.2.2.2.2; omega); rw [HQ3.out.2.1] at this; exact this
                      have C142 : Hid (digM tt3 = true → Calls Tryz.prog 142 #[.slice a31 tl3 c31, .int .i64 2147483647] w6 fun e w' => e = .returned (.int .i64 (numM tt3 2147483647)) ∧ w' = w6) := fun hz => by have := numberM_any w6 a31 c31 tt3 2147483647 hu (by rw [HQ3.out.2.1]; exact HQ3.out.2.2.1) HQ3.out.2.2.2.1 (digM_all hz); rw [HQ3.out.2.1] at this; exact this
                      obtain ⟨bz, hbz⟩ : ∃ z, digM tt3 = z := ⟨_, rfl⟩
                      rw [hbz] at cc HR C142
                      clear hbz hu
                      have HNL : Hid (numM tt3 2147483647 ≤ 2147483647) := by show _ ≤ _; unfold numM; (split; omega; split <;> omega)
                      generalize numM tt3 2147483647 = kk at *
                      go_wp2_with fail
                      refine cc.out.mono ?_
                      rintro e wz ⟨rfl, hw⟩
                      rw [hw]
                      clear cc hw wz
                      cases bz
                      · rw [if_neg (by simp)] at HR
                        obtain ⟨-, y0, y1, y2⟩ := HQ3.out.1 _ HX.out
                        go_upto_region 29 with fail
                        have HK0 : Hid ((ErT N gt (9) (.slice a31 tl3 c31) ln3 col3) w6.drew) := ⟨HPH.out.n0, HPH.out.n1, y0, y1, y2⟩
                        refine wp_region_held_drew (S := ErT N gt (9) (.slice a31 tl3 c31) ln3 col3) (by kernel_rfl) HK0.out (fun hHeld => ?_)
                        refine wpAnyH_take (i := 0) (v := ?_) rfl (by kernel_rfl) (by kernel_rfl) (by kernel_rfl) (fun _ _ _ h => h) (Or.inl ⟨by rfl, ?_⟩) (by assumption) ?_
                        rotate_left
                        · (intro w hSw; (try dsimp only at hSw); (obtain ⟨z0, z1, z2, z3, z4⟩ := hSw; simp only [Nat.reduceAdd] at z2 z3 z4); go_simp; try (with_reducible rfl))
                        try simp only [Act.put, List.getElem_toArray, List.getElem_cons_zero, List.getElem_cons_succ, List.setIfInBounds_toArray, List.set_cons_zero, List.set_cons_succ]
                        refine wpAnyH_take (i := 1) (v := ?_) rfl (by kernel_rfl) (by kernel_rfl) (by kernel_rfl) (fun _ _ _ h => h) (Or.inl ⟨by rfl, ?_⟩) (by assumption) ?_
                        rotate_left
                        · (intro w hSw; (try dsimp only at hSw); go_simp; try (with_reducible rfl))
                        try simp only [Act.put, List.getElem_toArray, List.getElem_cons_zero, List.getElem_cons_succ, List.setIfInBounds_toArray, List.set_cons_zero, List.set_cons_succ]
                        refine wpAnyH_take (i := 2) (v := ?_) rfl (by kernel_rfl) (by kernel_rfl) (by kernel_rfl) (fun _ _ _ h => h) (Or.inl ⟨by rfl, ?_⟩) (by assumption) ?_
                        rotate_left
                        · (intro w hSw; (try dsimp only at hSw); go_simp; try (with_reducible rfl))
                        try simp only [Act.put, List.getElem_toArray, List.getElem_cons_zero, List.getElem_cons_succ, List.setIfInBounds_toArray, List.set_cons_zero, List.set_cons_succ]
                        refine wpAnyH_take (i := 3) (v := ?_) rfl (by kernel_rfl) (by kernel_rfl) (by kernel_rfl) (fun _ _ _ h => h) (Or.inl ⟨by rfl, ?_⟩) (by assumption) ?_
                        rotate_left
                        · (intro w hSw; (try dsimp only at hSw); (obtain ⟨z0, z1, z2, z3, z4⟩ := hSw; simp only [Nat.reduceAdd] at z2 z3 z4); go_simp; try (with_reducible rfl))
                        try simp only [Act.put, List.getElem_toArray, List.getElem_cons_zero, List.getElem_cons_succ, List.setIfInBounds_toArray, List.set_cons_zero, List.set_cons_succ]
                        refine wpAnyH_ready (rs := [4]) (by kernel_rfl) (by simp) ?_
                        refine (AllReadyH.cons rfl (fun K hK => ?_) AllReadyH.nil)
                        · have cc := hide (atM_any w6.drew (.slice a31 tl3 c31) ⟨_, _, _, rfl⟩ 7 ln3 col3)
                          refine step_call rfl 139 #[.int .i64 7, .agg #[.slice a31 tl3 c31, .int .i64 ln3, .int .i64 col3]] (by simp [go_sem]) cc.out ?_
                          rintro e wy ⟨rfl, hy⟩
                          clear cc
                          have HPy := hide ((HPH.out.keep ((Ex.refl (fun _ => False) w6).drew)).keep hy)
                          have K1 := hide (HK0.out.ex hy (fun z => z) (fun z => z))
                          have K2 := hide (K1.out.ex (erA_ex wy a) (fun z => HPH.out.na z) (fun z => HGT.out.1 z))
                          have K3 := hide (K2.out.ex (erB_ex (erA wy a) b 7 ln3 col3) (fun z => HPH.out.nb z) (fun z => HGT.out.2 z))
                          have HPO := hide (HPbad.out 7 ln3 col3 _ HR.out (HPy.out.fin 7 ln3 col3))
                          have a0 := HPy.out.a0
                          have a1 := HPy.out.a1
                          have af := HPy.out.af
                          have b0 := HPy.out.b0
                          have b1 := HPy.out.b1
                          have b2 := HPy.out.b2
                          have bf := HPy.out.bf
                          have hab := HPy.out.ab
                          have hba : b ≠ a := fun z => hab z.symm
                          unfold erA at K2
                          unfold erB erA at K3 HPO
                          unfold fltV at HPO ⊢
                          clear HPy
                          refine ⟨_, rfl, ?_⟩
                          refine hK.out _ _ ?_ (fun hHeld => ?_)
                          · (first | with_reducible exact K1.out | with_reducible exact K2.out | with_reducible exact K3.out)
                          clear hK K
                          try simp only [Act.put, List.getElem_toArray, List.getElem_cons_zero, List.getElem_cons_succ, List.setIfInBounds_toArray, List.set_cons_zero, List.set_cons_succ]
                          refine wpAnyH_ready (rs := [5]) (by kernel_rfl) (by simp) ?_
                          refine (AllReadyH.cons rfl (fun K hK => ?_) AllReadyH.nil)
                          · go_simp
                            refine hK.out _ _ ?_ (fun hHeld => ?_)
                            · (first | with_reducible exact K1.out | with_reducible exact K2.out | with_reducible exact K3.out)
                            clear hK K
                            try simp only [Act.put, List.getElem_toArray, List.getElem_cons_zero, List.getElem_cons_succ, List.setIfInBounds_toArray, List.set_cons_zero, List.set_cons_succ]
                            refine wpAnyH_ready (rs := [6]) (by kernel_rfl) (by simp) ?_
                            refine (AllReadyH.cons rfl (fun K hK => ?_) AllReadyH.nil)
                            · go_simp
                              refine hK.out _ _ ?_ (fun hHeld => ?_)
                              · (first | with_reducible exact K1.out | with_reducible exact K2.out | with_reducible exact K3.out)
                              clear hK K
                              try simp only [Act.put, List.getElem_toArray, List.getElem_cons_zero, List.getElem_cons_succ, List.setIfInBounds_toArray, List.set_cons_zero, List.set_cons_succ]
                              refine wpAnyH_done (by kernel_rfl) ?_ _
                              clear K1 K2 K3 HK0 HPok HPbad
                              go_wp2_with (with_reducible refine bodyPost_ret (v := .tuple #[.agg #[.int .i64 0, .slice none 0 0], .agg #[.int .i64 7, .int .i64 ln3, .int .i64 col3]]) ?hr ?hd ?hp)
                              case hr => simp [results, Tryz.results88, go_sem, a0, a1, b0, b1, b2, hab, hba]
                              case hd => rfl
                              case hp => exact HPO.out
                      · rw [if_pos rfl] at HR
                        have cc := hide (C142.out rfl)
                        clear C142
                        go_wp2_with fail
                        refine cc.out.mono ?_
                        rintro e wz ⟨rfl, hw⟩
                        rw [hw]
                        clear cc hw wz
                        by_cases hv : kk < 0
                        · rw [if_pos hv] at HR
                          have hvb : decide (kk < 0) = true := decide_eq_true hv
                          obtain ⟨-, y0, y1, y2⟩ := HQ3.out.1 _ HX.out
                          go_upto_region 32 with fail
                          have HK0 : Hid ((ErT N gt (9) (.slice a31 tl3 c31) ln3 col3) w6.drew) := ⟨HPH.out.n0, HPH.out.n1, y0, y1, y2⟩
                          refine wp_region_held_drew (S := ErT N gt (9) (.slice a31 tl3 c31) ln3 col3) (by kernel_rfl) HK0.out (fun hHeld => ?_)
                          refine wpAnyH_take (i := 0) (v := ?_) rfl (by kernel_rfl) (by kernel_rfl) (by kernel_rfl) (fun _ _ _ h => h) (Or.inl ⟨by rfl, ?_⟩) (by assumption) ?_
                          rotate_left
                          · (intro w hSw; (try dsimp only at hSw); (obtain ⟨z0, z1, z2, z3, z4⟩ := hSw; simp only [Nat.reduceAdd] at z2 z3 z4); go_simp; try (with_reducible rfl))
                          try simp only [Act.put, List.getElem_toArray, List.getElem_cons_zero, List.getElem_cons_succ, List.setIfInBounds_toArray, List.set_cons_zero, List.set_cons_succ]
                          refine wpAnyH_take (i := 1) (v := ?_) rfl (by kernel_rfl) (by kernel_rfl) (by kernel_rfl) (fun _ _ _ h => h) (Or.inl ⟨by rfl, ?_⟩) (by assumption) ?_
                          rotate_left
                          · (intro w hSw; (try dsimp only at hSw); go_simp; try (with_reducible rfl))
                          try simp only [Act.put, List.getElem_toArray, List.getElem_cons_zero, List.getElem_cons_succ, List.setIfInBounds_toArray, List.set_cons_zero, List.set_cons_succ]
                          refine wpAnyH_take (i := 2) (v := ?_) rfl (by kernel_rfl) (by kernel_rfl) (by kernel_rfl) (fun _ _ _ h => h) (Or.inl ⟨by rfl, ?_⟩) (by assumption) ?_
                          rotate_left
                          · (intro w hSw; (try dsimp only at hSw); go_simp; try (with_reducible rfl))
                          try simp only [Act.put, List.getElem_toArray, List.getElem_cons_zero, List.getElem_cons_succ, List.setIfInBounds_toArray, List.set_cons_zero, List.set_cons_succ]
                          refine wpAnyH_take (i := 3) (v := ?_) rfl (by kernel_rfl) (by kernel_rfl) (by kernel_rfl) (fun _ _ _ h => h) (Or.inl ⟨by rfl, ?_⟩) (by assumption) ?_
                          rotate_left
                          · (intro w hSw; (try dsimp only at hSw); (obtain ⟨z0, z1, z2, z3, z4⟩ := hSw; simp only [Nat.reduceAdd] at z2 z3 z4); go_simp; try (with_reducible rfl))
                          try simp only [Act.put, List.getElem_toArray, List.getElem_cons_zero, List.getElem_cons_succ, List.setIfInBounds_toArray, List.set_cons_zero, List.set_cons_succ]
                          refine wpAnyH_ready (rs := [4]) (by kernel_rfl) (by simp) ?_
                          refine (AllReadyH.cons rfl (fun K hK => ?_) AllReadyH.nil)
                          · have cc := hide (atM_any w6.drew (.slice a31 tl3 c31) ⟨_, _, _, rfl⟩ 8 ln3 col3)
                            refine step_call rfl 139 #[.int .i64 8, .agg #[.slice a31 tl3 c31, .int .i64 ln3, .int .i64 col3]] (by simp [go_sem]) cc.out ?_
                            rintro e wy ⟨rfl, hy⟩
                            clear cc
                            have HPy := hide ((HPH.out.keep ((Ex.refl (fun _ => False) w6).drew)).keep hy)
                            have K1 := hide (HK0.out.ex hy (fun z => z) (fun z => z))
                            have K2 := hide (K1.out.ex (erA_ex wy a) (fun z => HPH.out.na z) (fun z => HGT.out.1 z))
                            have K3 := hide (K2.out.ex (erB_ex (erA wy a) b 8 ln3 col3) (fun z => HPH.out.nb z) (fun z => HGT.out.2 z))
                            have HPO := hide (HPbad.out 8 ln3 col3 _ HR.out (HPy.out.fin 8 ln3 col3))
                            have a0 := HPy.out.a0
                            have a1 := HPy.out.a1
                            have af := HPy.out.af
                            have b0 := HPy.out.b0
                            have b1 := HPy.out.b1
                            have b2 := HPy.out.b2
                            have bf := HPy.out.bf
                            have hab := HPy.out.ab
                            have hba : b ≠ a := fun z => hab z.symm
                            unfold erA at K2
                            unfold erB erA at K3 HPO
                            unfold fltV at HPO ⊢
                            clear HPy
                            refine ⟨_, rfl, ?_⟩
                            refine hK.out _ _ ?_ (fun hHeld => ?_)
                            · (first | with_reducible exact K1.out | with_reducible exact K2.out | with_reducible exact K3.out)
                            clear hK K
                            try simp only [Act.put, List.getElem_toArray, List.getElem_cons_zero, List.getElem_cons_succ, List.setIfInBounds_toArray, List.set_cons_zero, List.set_cons_succ]
                            refine wpAnyH_ready (rs := [5]) (by kernel_rfl) (by simp) ?_
                            refine (AllReadyH.cons rfl (fun K hK => ?_) AllReadyH.nil)
                            · go_simp
                              refine hK.out _ _ ?_ (fun hHeld => ?_)
                              · (first | with_reducible exact K1.out | with_reducible exact K2.out | with_reducible exact K3.out)
                              clear hK K
                              try simp only [Act.put, List.getElem_toArray, List.getElem_cons_zero, List.getElem_cons_succ, List.setIfInBounds_toArray, List.set_cons_zero, List.set_cons_succ]
                              refine wpAnyH_ready (rs := [6]) (by kernel_rfl) (by simp) ?_
                              refine (AllReadyH.cons rfl (fun K hK => ?_) AllReadyH.nil)
                              · go_simp
                                refine hK.out _ _ ?_ (fun hHeld => ?_)
                                · (first | with_reducible exact K1.out | with_reducible exact K2.out | with_reducible exact K3.out)
                                clear hK K
                                try simp only [Act.put, List.getElem_toArray, List.getElem_cons_zero, List.getElem_cons_succ, List.setIfInBounds_toArray, List.set_cons_zero, List.set_cons_succ]
                                refine wpAnyH_done (by kernel_rfl) ?_ _
                                clear K1 K2 K3 HK0 HPok HPbad
                                go_wp2_with (with_reducible refine bodyPost_ret (v := .tuple #[.agg #[.int .i64 0, .slice none 0 0], .agg #[.int .i64 8, .int .i64 ln3, .int .i64 col3]]) ?hr ?hd ?hp)
                                case hr => simp [results, Tryz.results88, go_sem, a0, a1, b0, b1, b2, hab, hba]
                                case hd => rfl
                                case hp => exact HPO.out
                        · rw [if_neg hv] at HR
                          have hkkb : decide (kk < 0) = false := decide_eq_false hv
                          have hkk := hv
                          clear hv x0 x1 x2
                          have hkkl := HNL.out
                          clear HNL
                          unfold fm5 at HR
                          by_cases hh5 : 4 < h
                          · rw [if_pos hh5] at HR
                            have hhb : decide ((4 : Int) < (h : Int)) = true := decide_eq_true (by omega)
                            have hhi : (4 : Int) < (h : Int) := by omega
                            have hj4 : 4 < nt := by omega
                            have hji4 : (4 : Int) < (nt : Int) := by omega
                            obtain ⟨a41, c41, hcl, hik, hcc, hcm, -⟩ := HLB.out.atG (s := 3) (fun _ _ => rfl) (tg_at (Ts := Ts) (i := 4) (by rw [HLB.out.hn]; omega))
                            obtain ⟨T4, hT4⟩ : ∃ z, tg Ts 4 = z := ⟨_, rfl⟩
                            rw [hT4] at hcl hik hcc
                            have HT4 := hide hT4
                            have HTL4 : Hid (T4.t.length ≤ 1000000000) := HTT.out _ (by rw [← hT4]; exact List.mem_of_getElem? (tg_at (by rw [HLB.out.hn]; omega)))
                            clear hT4
                            obtain ⟨tt4, ln4, col4⟩ := T4
                            dsimp only [t3] at hcl hik hcc HTL4
                            obtain ⟨tl4, htl4⟩ : ∃ z, tt4.length = z := ⟨_, rfl⟩
                            have HQ4 : Hid ((∀ wx, Ex (fun _ => False) w2 wx → UL wx a41 tt4 ∧ wx.cell? ⟨gt, 12, none⟩ = some (.slice a41 tl4 c41) ∧ wx.cell? ⟨gt, 13, none⟩ = some (.int .i64 ln4) ∧ wx.cell? ⟨gt, 14, none⟩ = some (.int .i64 col4)) ∧ tt4.length = tl4 ∧ tl4 ≤ c41 ∧ c41 ≤ maxLen ∧ tl4 ≤ 1000000000) := ⟨fun wx e => ⟨(hik.keep e (fun _ _ _ z => z)).ul, e.cell (fun z => z) (by rw [← htl4]; exact hcl 0 (by decide) _ rfl), e.cell (fun z => z) (hcl 1 (by decide) _ rfl), e.cell (fun z => z) (hcl 2 (by decide) _ rfl)⟩, htl4, by rw [← htl4]; exact hcc, hcm, by rw [← htl4]; exact HTL4.out⟩
                            clear hcl hik hcc hcm htl4 HTL4
                            rw [HT4.out] at HR
                            clear hh5
                            obtain ⟨-, y0, y1, y2⟩ := HQ4.out.1 _ HX.out
                            go_upto_region 34 with fail
                            have HK0 : Hid ((ErT N gt (12) (.slice a41 tl4 c41) ln4 col4) w6.drew) := ⟨HPH.out.n0, HPH.out.n1, y0, y1, y2⟩
                            refine wp_region_held_drew (S := ErT N gt (12) (.slice a41 tl4 c41) ln4 col4) (by kernel_rfl) HK0.out (fun hHeld => ?_)
                            refine wpAnyH_take (i := 0) (v := ?_) rfl (by kernel_rfl) (by kernel_rfl) (by kernel_rfl) (fun _ _ _ h => h) (Or.inl ⟨by rfl, ?_⟩) (by assumption) ?_
                            rotate_left
                            · (intro w hSw; (try dsimp only at hSw); (obtain ⟨z0, z1, z2, z3, z4⟩ := hSw; simp only [Nat.reduceAdd] at z2 z3 z4); go_simp; try (with_reducible rfl))
                            try simp only [Act.put, List.getElem_toArray, List.getElem_cons_zero, List.getElem_cons_succ, List.setIfInBounds_toArray, List.set_cons_zero, List.set_cons_succ]
                            refine wpAnyH_take (i := 1) (v := ?_) rfl (by kernel_rfl) (by kernel_rfl) (by kernel_rfl) (fun _ _ _ h => h) (Or.inl ⟨by rfl, ?_⟩) (by assumption) ?_
                            rotate_left
                            · (intro w hSw; (try dsimp only at hSw); go_simp; try (with_reducible rfl))
                            try simp only [Act.put, List.getElem_toArray, List.getElem_cons_zero, List.getElem_cons_succ, List.setIfInBounds_toArray, List.set_cons_zero, List.set_cons_succ]
                            refine wpAnyH_take (i := 2) (v := ?_) rfl (by kernel_rfl) (by kernel_rfl) (by kernel_rfl) (fun _ _ _ h => h) (Or.inl ⟨by rfl, ?_⟩) (by assumption) ?_
                            rotate_left
                            · (intro w hSw; (try dsimp only at hSw); go_simp; try (with_reducible rfl))
                            try simp only [Act.put, List.getElem_toArray, List.getElem_cons_zero, List.getElem_cons_succ, List.setIfInBounds_toArray, List.set_cons_zero, List.set_cons_succ]
                            refine wpAnyH_take (i := 3) (v := ?_) rfl (by kernel_rfl) (by kernel_rfl) (by kernel_rfl) (fun _ _ _ h => h) (Or.inl ⟨by rfl, ?_⟩) (by assumption) ?_
                            rotate_left
                            · (intro w hSw; (try dsimp only at hSw); (obtain ⟨z0, z1, z2, z3, z4⟩ := hSw; simp only [Nat.reduceAdd] at z2 z3 z4); go_simp; try (with_reducible rfl))
                            try simp only [Act.put, List.getElem_toArray, List.getElem_cons_zero, List.getElem_cons_succ, List.setIfInBounds_toArray, List.set_cons_zero, List.set_cons_succ]
                            refine wpAnyH_ready (rs := [4]) (by kernel_rfl) (by simp) ?_
                            refine (AllReadyH.cons rfl (fun K hK => ?_) AllReadyH.nil)
                            · have cc := hide (atM_any w6.drew (.slice a41 tl4 c41) ⟨_, _, _, rfl⟩ 7 ln4 col4)
                              refine step_call rfl 139 #[.int .i64 7, .agg #[.slice a41 tl4 c41, .int .i64 ln4, .int .i64 col4]] (by simp [go_sem]) cc.out ?_
                              rintro e wy ⟨rfl, hy⟩
                              clear cc
                              have HPy := hide ((HPH.out.keep ((Ex.refl (fun _ => False) w6).drew)).keep hy)
                              have K1 := hide (HK0.out.ex hy (fun z => z) (fun z => z))
                              have K2 := hide (K1.out.ex (erA_ex wy a) (fun z => HPH.out.na z) (fun z => HGT.out.1 z))
                              have K3 := hide (K2.out.ex (erB_ex (erA wy a) b 7 ln4 col4) (fun z => HPH.out.nb z) (fun z => HGT.out.2 z))
                              have HPO := hide (HPbad.out 7 ln4 col4 _ HR.out (HPy.out.fin 7 ln4 col4))
                              have a0 := HPy.out.a0
                              have a1 := HPy.out.a1
                              have af := HPy.out.af
                              have b0 := HPy.out.b0
                              have b1 := HPy.out.b1
                              have b2 := HPy.out.b2
                              have bf := HPy.out.bf
                              have hab := HPy.out.ab
                              have hba : b ≠ a := fun z => hab z.symm
                              unfold erA at K2
                              unfold erB erA at K3 HPO
                              unfold fltV at HPO ⊢
                              clear HPy
                              refine ⟨_, rfl, ?_⟩
                              refine hK.out _ _ ?_ (fun hHeld => ?_)
                              · (first | with_reducible exact K1.out | with_reducible exact K2.out | with_reducible exact K3.out)
                              clear hK K
                              try simp only [Act.put, List.getElem_toArray, List.getElem_cons_zero, List.getElem_cons_succ, List.setIfInBounds_toArray, List.set_cons_zero, List.set_cons_succ]
                              refine wpAnyH_ready (rs := [5]) (by kernel_rfl) (by simp) ?_
                              refine (AllReadyH.cons rfl (fun K hK => ?_) AllReadyH.nil)
                              · go_simp
                                refine hK.out _ _ ?_ (fun hHeld => ?_)
                                · (first | with_reducible exact K1.out | with_reducible exact K2.out | with_reducible exact K3.out)
                                clear hK K
                                try simp only [Act.put, List.getElem_toArray, List.getElem_cons_zero, List.getElem_cons_succ, List.setIfInBounds_toArray, List.set_cons_zero, List.set_cons_succ]
                                refine wpAnyH_ready (rs := [6]) (by kernel_rfl) (by simp) ?_
                                refine (AllReadyH.cons rfl (fun K hK => ?_) AllReadyH.nil)
                                · go_simp
                                  refine hK.out _ _ ?_ (fun hHeld => ?_)
                                  · (first | with_reducible exact K1.out | with_reducible exact K2.out | with_reducible exact K3.out)
                                  clear hK K
                                  try simp only [Act.put, List.getElem_toArray, List.getElem_cons_zero, List.getElem_cons_succ, List.setIfInBounds_toArray, List.set_cons_zero, List.set_cons_succ]
                                  refine wpAnyH_done (by kernel_rfl) ?_ _
                                  clear K1 K2 K3 HK0 HPok HPbad
                                  go_wp2_with (with_reducible refine bodyPost_ret (v := .tuple #[.agg #[.int .i64 0, .slice none 0 0], .agg #[.int .i64 7, .int .i64 ln4, .int .i64 col4]]) ?hr ?hd ?hp)
                                  case hr => simp [results, Tryz.results88, go_sem, a0, a1, b0, b1, b2, hab, hba]
                                  case hd => rfl
                                  case hp => exact HPO.out
                          · rw [if_neg hh5] at HR
                            have hhb : decide ((4 : Int) < (h : Int)) = false := decide_eq_false (by omega)
                            have hhi : ¬ (4 : Int) < (h : Int) := by omega
                            have hn4 : 4 ≤ nt := by omega
                            have HFN := hide (fs_new w6 vv)
                            unfold fsW at HFN
                            have HPH3 := hide (HPH.out.keep HFN.out.2)
                            have HX3 := hide (HX.out.trans HFN.out.2)
                            have HFS0 := hide HFN.out.1
                            have HLW : Hid (a < w6.heap.size ∧ b < w6.heap.size ∧ N < w6.heap.size) := HPH.out.lt
                            have HW6 : Hid (w.heap.size ≤ w6.heap.size) := HPH.out.ex.size
                            have HGL : Hid (gt < w6.heap.size) := World.block_lt_of_cell? _ _ (HQ0.out.1 _ HX.out).2.1
                            have HX6 : Hid (w2.heap.size ≤ w6.heap.size) := HX.out.size
                            clear HFN HPH HX HQ0 HQ1 HQ2 HQ3 HT0 HT1 HT2 HT3 C140 hh2 hh3 hh4 hh5
                            have hcg : nt ≤ ctv ∧ ctv ≤ maxLen := by obtain ⟨V, h1, _⟩ := HLB.out.ro; exact row_cap h1
                            unfold maxLen at hcg
                            go_upto_region 37 with fail
                            generalize (((w6.alloc (.cells #[] 30)).alloc (.cells #[.int .i64 vv, .slice (some ⟨w6.heap.size, 0, none⟩) 0 0] 29)).alloc (.cells #[] 3)) = w7 at *
                            generalize hB6 : w6.heap.size = B at *
                            clear hB6
                            generalize hq : B + 1 = q at *
                            clear hq
                            have hc4 : 4 ≤ ctv := by omega
                            have hn4i : (4 : Int) ≤ (nt : Int) := by omega
                            have hc4i : (4 : Int) ≤ (ctv : Int) := by omega
                            obtain ⟨n4, hn4e⟩ : ∃ z, nt = z + 4 := ⟨nt - 4, by omega⟩
                            have HN4 := hide hn4e
                            have hcn : ctv = 4 → n4 = 0 := by omega
                            go_cut [140, 141, 142] (fun v1 v2 v3 wx => ∃ ad cd, v1 = .slice ad n4 cd ∧ v2 = .int .i64 n4 ∧ v3 = .int .i64 0 ∧ wx = w7 ∧ (0 < n4 → ad = some ⟨gt, 12, none⟩))
                            case first =>
                              have hx1 : nt - 4 = n4 := by omega
                              have hx2 : ((nt : Int) - 4) = (n4 : Int) := by omega
                              clear hn4e HPok HPbad C137 HFS0 HPH3 HX3
                              by_cases hc : ctv = 4
                              · have hcb : (ctv == 4) = true := by simp [hc]
                                have hz := hcn hc
                                have HZ := hide hz
                                clear hz
                                go_wp2
                                go_meet
                                exact ⟨_, _, by rw [HZ.out], by rw [HZ.out]; rfl, rfl, rfl, fun z => absurd HZ.out (by omega)⟩
                              · have hcb : (ctv == 4) = false := by simp [hc]
                                go_wp2
                                go_meet
                                exact ⟨_, _, rfl, rfl, rfl, rfl, fun _ => rfl⟩
                            obtain ⟨ad, cd, rfl, rfl, rfl, rfl, had⟩ := hcut
                            clear hn4e hcn hc4 hn4i hc4i hcg hhb hhi hn4
                            have HR4 : Hid (fmA ((kl : Int) + 1) ec vv kk [] [] (Ts.drop (4 + 0)) = R0) := HR.out
                            clear HR
                            have HPX : Hid (∀ wx, Ex (fun j => B ≤ j ∧ j < B + 3) wc wx → PH w wx a b N) := fun wx e => HPH3.out.keepS e (fun z => by have := HLW.out; omega) (fun z => by have := HLW.out; omega) (fun z => by have := HLW.out; omega) (fun j z => Nat.le_trans HW6.out z.1)
                            have HTX : Hid (∀ i t, i < n4 → Ts[4 + i]? = some t → ∃ a1 c1, (∀ wx, Ex (fun j => B ≤ j ∧ j < B + 3) wc wx → UL wx a1 t.t ∧ wx.cell? ⟨gt, 12 + i * 3, none⟩ = some (.slice a1 t.t.length c1) ∧ wx.cell? ⟨gt, 12 + i * 3 + 1, none⟩ = some (.int .i64 t.ln) ∧ wx.cell? ⟨gt, 12 + i * 3 + 2, none⟩ = some (.int .i64 t.col)) ∧ t.t.length ≤ c1 ∧ c1 ≤ maxLen ∧ t.t.length ≤ 1000000000) := by
                              intro i t hi ht
                              obtain ⟨a1, c1, hcl, hik, hcc, hcm, hbk⟩ := HLB.out.atG (s := 3) (fun _ _ => rfl) ht
                              have e12 : ∀ r, (4 + i) * 3 + r = 12 + i * 3 + r := fun r => by omega
                              have hk6 : Hid (∀ g off, a1 = some ⟨g, off, none⟩ → g < B) := fun g off ea => Nat.lt_of_lt_of_le (hbk g off ea).1 HX6.out
                              refine ⟨a1, c1, fun wx e => ⟨((hik.keep HX3.out (fun _ _ _ z => z)).keep e (fun g off ea z => by have := hk6.out g off ea; omega)).ul, e.cell (fun z => by have := HGL.out; omega) (HX3.out.cell (fun z => z) (by have := hcl 0 (by decide) _ rfl; rw [e12] at this; exact this)), e.cell (fun z => by have := HGL.out; omega) (HX3.out.cell (fun z => z) (by have := hcl 1 (by decide) _ rfl; rw [e12] at this; exact this)), e.cell (fun z => by have := HGL.out; omega) (HX3.out.cell (fun z => z) (by have := hcl 2 (by decide) _ rfl; rw [e12] at this; exact this))⟩, hcc, hcm, HTT.out t (List.mem_of_getElem? ht)⟩
                            have HTN : Hid (Ts.length = n4 + 4) := by rw [← HN4.out]; exact HLB.out.hn
                            have hn4l : n4 ≤ 1000000000 := by have := HN4.out; omega
                            clear HPH3 HX3 HX6 HLB HTT HN4 hnt HGT HW6 HTL hj0 hji0 hj1 hji1 hj2 hji2 hj3 hji3 hhb2 hhb3 hhb4 hhi2 hhi3 hhi4 hn0 hn0b hhn hkl HGB HBW HEw
                            go_upto_region 38 with fail
                            go_loopw [13, 142] (fun s13 s142 wx => ∃ (i n m cn cm : Nat) (an am : Option Addr) (F : List (List Int)) (C : List Int), s142 = .int .i64 i ∧ s13 = .slice am m cm ∧ i ≤ n4 ∧ n ≤ i ∧ m ≤ i ∧ Hid (fmA ((kl : Int) + 1) ec vv kk F C (Ts.drop (4 + i)) = R0) ∧ Hid (FS wc B q wx F (.slice an n cn) n C (.slice am m cm) m vv (.slice an n cn))) (fun _ s142 _ => n4 - (intOf s142).toNat)
                            case atStart => exact ⟨0, 0, 0, 0, 0, _, _, [], [], rfl, rfl, Nat.zero_le _, Nat.le_refl _, Nat.le_refl _, HR4, HFS0⟩
                            case round =>
                              clear HR4 HFS0
                              obtain ⟨i2, n, m, cn, cm, an, am, F, C, rfl, rfl, hi, hni, hmi, HS, HF⟩ := hrel
                              generalize hgw : wr = wv at *
                              clear hgw
                              have hw1 : wrap64 ((i2 : Int) + 1) = ((i2 + 1 : Nat) : Int) := by unfold wrap64; omega
                              have HPH := hide (HPX.out wv HF.out.lo.ex)
                              by_cases hlt : i2 < n4
                              · have hib : decide ((i2 : Int) < (n4 : Int)) = true := decide_eq_true (by omega)
                                have hii : (i2 : Int) < (n4 : Int) := by omega
                                have had2 := had (by omega)
                                subst had2
                                obtain ⟨t, ht⟩ : ∃ t, Ts[4 + i2]? = some t := ⟨_, List.getElem?_eq_getElem (by rw [HTN.out]; omega)⟩
                                obtain ⟨a1, c1, hux, hcc, hcm, htl1⟩ := HTX.out i2 t hlt ht
                                rw [drop_consG ht] at HS
                                obtain ⟨hu, x0, x1, x2⟩ := hux wv HF.out.lo.ex
                                have HUX := hide hux
                                have HCC := hide (And.intro hcc (And.intro hcm htl1))
                                clear ht hux hcc hcm htl1 hu
                                obtain ⟨tt, tln, tcol⟩ := t
                                dsimp only at x0 x1 x2 HUX HCC
                                obtain ⟨tl, htl⟩ : ∃ z, tt.length = z := ⟨_, rfl⟩
                                rw [htl] at x0 HCC
                                have HTl := hide htl
                                clear htl
                                have HS1 : Hid ((if (litM tt).2 ≠ 0 then .bad (litM tt).2 tln tcol else if (F.length : Int) = kk then .bad 12 tln tcol else if vv < absP (litM tt).1 then .bad 10 tln tcol else if (litM tt).1 = 0 then fmA ((kl : Int) + 1) ec vv kk (F ++ [C]) [] (Ts.drop (4 + (i2 + 1))) else fmA ((kl : Int) + 1) ec vv kk F (C ++ [(litM tt).1]) (Ts.drop (4 + (i2 + 1)))) = R0) := HS.out
                                clear HS
                                rw [HF.out.lo.hn] at HS1
                                have HFt := hide (HF.out.al (.cells #[.slice a1 tl c1, .int .i64 tln, .int .i64 tcol] 181))
                                have HPt := hide (HPH.out.keep (Ex.of (be1 wv (.cells #[.slice a1 tl c1, .int .i64 tln, .int .i64 tcol] 181))))
                                have f0 : (wv.alloc (.cells #[.slice a1 tl c1, .int .i64 tln, .int .i64 tcol] 181)).cell? ⟨wv.heap.size, 0, none⟩ = some (.slice a1 tl c1) := new_cells wv [.slice a1 tl c1, .int .i64 tln, .int .i64 tcol] 181 0 _ rfl
                                have f1 : (wv.alloc (.cells #[.slice a1 tl c1, .int .i64 tln, .int .i64 tcol] 181)).cell? ⟨wv.heap.size, 1, none⟩ = some (.int .i64 tln) := new_cells wv [.slice a1 tl c1, .int .i64 tln, .int .i64 tcol] 181 1 _ rfl
                                have f2 : (wv.alloc (.cells #[.slice a1 tl c1, .int .i64 tln, .int .i64 tcol] 181)).cell? ⟨wv.heap.size, 2, none⟩ = some (.int .i64 tcol) := new_cells wv [.slice a1 tl c1, .int .i64 tln, .int .i64 tcol] 181 2 _ rfl
                                have HNb : Hid (¬ wv.heap.size = a ∧ ¬ wv.heap.size = b) := by have := HPH.out.lt; exact ⟨by omega, by omega⟩
                                go_upto_region 40 with fail
                                clear x0 x1 x2 HF HPH
                                generalize wv.alloc (.cells #[.slice a1 tl c1, .int .i64 tln, .int .i64 tcol] 181) = wt at *
                                generalize wv.heap.size = bt at *
                                have cc : Hid (Calls Tryz.prog 143 #[.agg #[.slice a1 tl c1, .int .i64 tln, .int .i64 tcol]] wt (ExPost wt (.tuple #[.int .i64 (litM tt).1, .int .i64 (litM tt).2]))) := by have := literalM_any wt a1 c1 tt tln tcol (HUX.out wt HFt.out.lo.ex).1 (by rw [HTl.out]; exact HCC.out.1) HCC.out.2.1 (by rw [HTl.out]; have := HCC.out.2.2; omega); rw [HTl.out] at this; exact this
                                have HLR := hide (litM_rng tt)
                                clear HUX HCC HTl
                                generalize litM tt = lt at *
                                go_wp2_with fail
                                refine cc.out.mono ?_
                                rintro e wz ⟨rfl, hz⟩
                                clear cc
                                have HFz := hide (HFt.out.keep hz)
                                have HPH := hide (HPt.out.keep hz)
                                replace f0 := hz.cell (fun z => z) f0
                                replace f1 := hz.cell (fun z => z) f1
                                replace f2 := hz.cell (fun z => z) f2
                                clear HFt HPt hz
                                obtain ⟨l1, l2⟩ := lt
                                dsimp only at HS1 HLR ⊢
                                by_cases hl2 : l2 = 0
                                rotate_left
                                · rw [if_pos hl2] at HS1
                                  have hl2b : (l2 != 0) = true := by simp [hl2]
                                  clear hl2
                                  have y0 := f0
                                  have y1 := f1
                                  have y2 := f2
                                  go_upto_region 42 with fail
                                  have HK0 : Hid ((ErT N bt (0) (.slice a1 tl c1) tln tcol) wz.drew) := ⟨HPH.out.n0, HPH.out.n1, y0, y1, y2⟩
                                  refine wp_region_held_drew (S := ErT N bt (0) (.slice a1 tl c1) tln tcol) (by kernel_rfl) HK0.out (fun hHeld => ?_)
                                  refine wpAnyH_take (i := 0) (v := ?_) rfl (by kernel_rfl) (by kernel_rfl) (by kernel_rfl) (fun _ _ _ h => h) (Or.inl ⟨by rfl, ?_⟩) (by assumption) ?_
                                  rotate_left
                                  · (intro w hSw; (try dsimp only at hSw); (obtain ⟨z0, z1, z2, z3, z4⟩ := hSw; simp only [Nat.reduceAdd] at z2 z3 z4); go_simp; try (with_reducible rfl))
                                  try simp only [Act.put, List.getElem_toArray, List.getElem_cons_zero, List.getElem_cons_succ, List.setIfInBounds_toArray, List.set_cons_zero, List.set_cons_succ]
                                  refine wpAnyH_take (i := 1) (v := ?_) rfl (by kernel_rfl) (by kernel_rfl) (by kernel_rfl) (fun _ _ _ h => h) (Or.inl ⟨by rfl, ?_⟩) (by assumption) ?_
                                  rotate_left
                                  · (intro w hSw; (try dsimp only at hSw); go_simp; try (with_reducible rfl))
                                  try simp only [Act.put, List.getElem_toArray, List.getElem_cons_zero, List.getElem_cons_succ, List.setIfInBounds_toArray, List.set_cons_zero, List.set_cons_succ]
                                  refine wpAnyH_take (i := 2) (v := ?_) rfl (by kernel_rfl) (by kernel_rfl) (by kernel_rfl) (fun _ _ _ h => h) (Or.inl ⟨by rfl, ?_⟩) (by assumption) ?_
                                  rotate_left
                                  · (intro w hSw; (try dsimp only at hSw); (obtain ⟨z0, z1, z2, z3, z4⟩ := hSw; simp only [Nat.reduceAdd] at z2 z3 z4); go_simp; try (with_reducible rfl))
                                  try simp only [Act.put, List.getElem_toArray, List.getElem_cons_zero, List.getElem_cons_succ, List.setIfInBounds_toArray, List.set_cons_zero, List.set_cons_succ]
                                  refine wpAnyH_ready (rs := [3]) (by kernel_rfl) (by simp) ?_
                                  refine (AllReadyH.cons rfl (fun K hK => ?_) AllReadyH.nil)
                                  · have cc := hide (atM_any wz.drew (.slice a1 tl c1) ⟨_, _, _, rfl⟩ l2 tln tcol)
                                    refine step_call rfl 139 #[.int .i64 l2, .agg #[.slice a1 tl c1, .int .i64 tln, .int .i64 tcol]] (by simp [go_sem]) cc.out ?_
                                    rintro e wy ⟨rfl, hy⟩
                                    clear cc
                                    have HPy := hide ((HPH.out.keep ((Ex.refl (fun _ => False) wz).drew)).keep hy)
                                    have K1 := hide (HK0.out.ex hy (fun z => z) (fun z => z))
                                    have K2 := hide (K1.out.ex (erA_ex wy a) (fun z => HPH.out.na z) (fun z => HNb.out.1 z))
                                    have K3 := hide (K2.out.ex (erB_ex (erA wy a) b l2 tln tcol) (fun z => HPH.out.nb z) (fun z => HNb.out.2 z))
                                    have HPO := hide (HPbad.out l2 tln tcol _ HS1.out (HPy.out.fin l2 tln tcol))
                                    have a0 := HPy.out.a0
                                    have a1 := HPy.out.a1
                                    have af := HPy.out.af
                                    have b0 := HPy.out.b0
                                    have b1 := HPy.out.b1
                                    have b2 := HPy.out.b2
                                    have bf := HPy.out.bf
                                    have hab := HPy.out.ab
                                    have hba : b ≠ a := fun z => hab z.symm
                                    unfold erA at K2
                                    unfold erB erA at K3 HPO
                                    unfold fltV at HPO ⊢
                                    clear HPy
                                    refine ⟨_, rfl, ?_⟩
                                    refine hK.out _ _ ?_ (fun hHeld => ?_)
                                    · (first | with_reducible exact K1.out | with_reducible exact K2.out | with_reducible exact K3.out)
                                    clear hK K
                                    try simp only [Act.put, List.getElem_toArray, List.getElem_cons_zero, List.getElem_cons_succ, List.setIfInBounds_toArray, List.set_cons_zero, List.set_cons_succ]
                                    refine wpAnyH_ready (rs := [4]) (by kernel_rfl) (by simp) ?_
                                    refine (AllReadyH.cons rfl (fun K hK => ?_) AllReadyH.nil)
                                    · go_simp
                                      refine hK.out _ _ ?_ (fun hHeld => ?_)
                                      · (first | with_reducible exact K1.out | with_reducible exact K2.out | with_reducible exact K3.out)
                                      clear hK K
                                      try simp only [Act.put, List.getElem_toArray, List.getElem_cons_zero, List.getElem_cons_succ, List.setIfInBounds_toArray, List.set_cons_zero, List.set_cons_succ]
                                      refine wpAnyH_ready (rs := [5]) (by kernel_rfl) (by simp) ?_
                                      refine (AllReadyH.cons rfl (fun K hK => ?_) AllReadyH.nil)
                                      · go_simp
                                        refine hK.out _ _ ?_ (fun hHeld => ?_)
                                        · (first | with_reducible exact K1.out | with_reducible exact K2.out | with_reducible exact K3.out)
                                        clear hK K
                                        try simp only [Act.put, List.getElem_toArray, List.getElem_cons_zero, List.getElem_cons_succ, List.setIfInBounds_toArray, List.set_cons_zero, List.set_cons_succ]
                                        refine wpAnyH_done (by kernel_rfl) ?_ _
                                        clear K1 K2 K3 HK0 HPok HPbad
                                        go_wp2_with (with_reducible refine bodyPost_ret (v := .tuple #[.agg #[.int .i64 0, .slice none 0 0], .agg #[.int .i64 l2, .int .i64 tln, .int .i64 tcol]]) ?hr ?hd ?hp)
                                        case hr => simp [results, Tryz.results88, go_sem, a0, a1, b0, b1, b2, hab, hba]
                                        case hd => rfl
                                        case hp => exact HPO.out
                                · rw [if_neg (by simp [hl2])] at HS1
                                  have hl2b : (l2 != 0) = false := by simp [hl2]
                                  clear hl2
                                  have q1 := HFz.out.q1
                                  by_cases hnk : (n : Int) = kk
                                  · rw [if_pos hnk] at HS1
                                    have hnkb : ((n : Int) == kk) = true := by simp [hnk]
                                    clear hnk
                                    have y0 := f0
                                    have y1 := f1
                                    have y2 := f2
                                    go_upto_region 44 with fail
                                    have HK0 : Hid ((ErT N bt (0) (.slice a1 tl c1) tln tcol) wz.drew) := ⟨HPH.out.n0, HPH.out.n1, y0, y1, y2⟩
                                    refine wp_region_held_drew (S := ErT N bt (0) (.slice a1 tl c1) tln tcol) (by kernel_rfl) HK0.out (fun hHeld => ?_)
                                    refine wpAnyH_take (i := 0) (v := ?_) rfl (by kernel_rfl) (by kernel_rfl) (by kernel_rfl) (fun _ _ _ h => h) (Or.inl ⟨by rfl, ?_⟩) (by assumption) ?_
                                    rotate_left
                                    · (intro w hSw; (try dsimp only at hSw); (obtain ⟨z0, z1, z2, z3, z4⟩ := hSw; simp only [Nat.reduceAdd] at z2 z3 z4); go_simp; try (with_reducible rfl))
                                    try simp only [Act.put, List.getElem_toArray, List.getElem_cons_zero, List.getElem_cons_succ, List.setIfInBounds_toArray, List.set_cons_zero, List.set_cons_succ]
                                    refine wpAnyH_take (i := 1) (v := ?_) rfl (by kernel_rfl) (by kernel_rfl) (by kernel_rfl) (fun _ _ _ h => h) (Or.inl ⟨by rfl, ?_⟩) (by assumption) ?_
                                    rotate_left
                                    · (intro w hSw; (try dsimp only at hSw); (obtain ⟨z0, z1, z2, z3, z4⟩ := hSw; simp only [Nat.reduceAdd] at z2 z3 z4); go_simp; try (with_reducible rfl))
                                    try simp only [Act.put, List.getElem_toArray, List.getElem_cons_zero, List.getElem_cons_succ, List.setIfInBounds_toArray, List.set_cons_zero, List.set_cons_succ]
                                    refine wpAnyH_ready (rs := [2]) (by kernel_rfl) (by simp) ?_
                                    refine (AllReadyH.cons rfl (fun K hK => ?_) AllReadyH.nil)
                                    · have cc := hide (atM_any wz.drew (.slice a1 tl c1) ⟨_, _, _, rfl⟩ 12 tln tcol)
                                      refine step_call rfl 139 #[.int .i64 12, .agg #[.slice a1 tl c1, .int .i64 tln, .int .i64 tcol]] (by simp [go_sem]) cc.out ?_
                                      rintro e wy ⟨rfl, hy⟩
                                      clear cc
                                      have HPy := hide ((HPH.out.keep ((Ex.refl (fun _ => False) wz).drew)).keep hy)
                                      have K1 := hide (HK0.out.ex hy (fun z => z) (fun z => z))
                                      have K2 := hide (K1.out.ex (erA_ex wy a) (fun z => HPH.out.na z) (fun z => HNb.out.1 z))
                                      have K3 := hide (K2.out.ex (erB_ex (erA wy a) b 12 tln tcol) (fun z => HPH.out.nb z) (fun z => HNb.out.2 z))
                                      have HPO := hide (HPbad.out 12 tln tcol _ HS1.out (HPy.out.fin 12 tln tcol))
                                      have a0 := HPy.out.a0
                                      have a1 := HPy.out.a1
                                      have af := HPy.out.af
                                      have b0 := HPy.out.b0
                                      have b1 := HPy.out.b1
                                      have b2 := HPy.out.b2
                                      have bf := HPy.out.bf
                                      have hab := HPy.out.ab
                                      have hba : b ≠ a := fun z => hab z.symm
                                      unfold erA at K2
                                      unfold erB erA at K3 HPO
                                      unfold fltV at HPO ⊢
                                      clear HPy
                                      refine ⟨_, rfl, ?_⟩
                                      refine hK.out _ _ ?_ (fun hHeld => ?_)
                                      · (first | with_reducible exact K1.out | with_reducible exact K2.out | with_reducible exact K3.out)
                                      clear hK K
                                      try simp only [Act.put, List.getElem_toArray, List.getElem_cons_zero, List.getElem_cons_succ, List.setIfInBounds_toArray, List.set_cons_zero, List.set_cons_succ]
                                      refine wpAnyH_ready (rs := [3]) (by kernel_rfl) (by simp) ?_
                                      refine (AllReadyH.cons rfl (fun K hK => ?_) AllReadyH.nil)
                                      · go_simp
                                        refine hK.out _ _ ?_ (fun hHeld => ?_)
                                        · (first | with_reducible exact K1.out | with_reducible exact K2.out | with_reducible exact K3.out)
                                        clear hK K
                                        try simp only [Act.put, List.getElem_toArray, List.getElem_cons_zero, List.getElem_cons_succ, List.setIfInBounds_toArray, List.set_cons_zero, List.set_cons_succ]
                                        refine wpAnyH_ready (rs := [4]) (by kernel_rfl) (by simp) ?_
                                        refine (AllReadyH.cons rfl (fun K hK => ?_) AllReadyH.nil)
                                        · go_simp
                                          refine hK.out _ _ ?_ (fun hHeld => ?_)
                                          · (first | with_reducible exact K1.out | with_reducible exact K2.out | with_reducible exact K3.out)
                                          clear hK K
                                          try simp only [Act.put, List.getElem_toArray, List.getElem_cons_zero, List.getElem_cons_succ, List.setIfInBounds_toArray, List.set_cons_zero, List.set_cons_succ]
                                          refine wpAnyH_done (by kernel_rfl) ?_ _
                                          clear K1 K2 K3 HK0 HPok HPbad
                                          go_wp2_with (with_reducible refine bodyPost_ret (v := .tuple #[.agg #[.int .i64 0, .slice none 0 0], .agg #[.int .i64 12, .int .i64 tln, .int .i64 tcol]]) ?hr ?hd ?hp)
                                          case hr => simp [results, Tryz.results88, go_sem, a0, a1, b0, b1, b2, hab, hba]
                                          case hd => rfl
                                          case hp => exact HPO.out
                                  · rw [if_neg hnk] at HS1
                                    have hnkb : ((n : Int) == kk) = false := by simp [hnk]
                                    clear hnk
                                    have cc := hide (varOf_any wz l1 (by have := HLR.out; omega))
                                    obtain ⟨ab1, hab1⟩ : ∃ z, absP l1 = z := ⟨_, rfl⟩
                                    rw [hab1] at cc HS1
                                    clear hab1
                                    go_wp2_with fail
                                    refine cc.out.mono ?_
                                    rintro e w9 ⟨rfl, hw⟩
                                    rw [hw]
                                    clear cc hw w9
                                    by_cases hva : vv < ab1
                                    · rw [if_pos hva] at HS1
                                      have hvab : decide (vv < ab1) = true := decide_eq_true hva
                                      have y0 := f0
                                      have y1 := f1
                                      have y2 := f2
                                      go_upto_region 46 with fail
                                      have HK0 : Hid ((ErT N bt (0) (.slice a1 tl c1) tln tcol) wz.drew) := ⟨HPH.out.n0, HPH.out.n1, y0, y1, y2⟩
                                      refine wp_region_held_drew (S := ErT N bt (0) (.slice a1 tl c1) tln tcol) (by kernel_rfl) HK0.out (fun hHeld => ?_)
                                      refine wpAnyH_take (i := 0) (v := ?_) rfl (by kernel_rfl) (by kernel_rfl) (by kernel_rfl) (fun _ _ _ h => h) (Or.inl ⟨by rfl, ?_⟩) (by assumption) ?_
                                      rotate_left
                                      · (intro w hSw; (try dsimp only at hSw); (obtain ⟨z0, z1, z2, z3, z4⟩ := hSw; simp only [Nat.reduceAdd] at z2 z3 z4); go_simp; try (with_reducible rfl))
                                      try simp only [Act.put, List.getElem_toArray, List.getElem_cons_zero, List.getElem_cons_succ, List.setIfInBounds_toArray, List.set_cons_zero, List.set_cons_succ]
                                      refine wpAnyH_take (i := 1) (v := ?_) rfl (by kernel_rfl) (by kernel_rfl) (by kernel_rfl) (fun _ _ _ h => h) (Or.inl ⟨by rfl, ?_⟩) (by assumption) ?_
                                      rotate_left
                                      · (intro w hSw; (try dsimp only at hSw); (obtain ⟨z0, z1, z2, z3, z4⟩ := hSw; simp only [Nat.reduceAdd] at z2 z3 z4); go_simp; try (with_reducible rfl))
                                      try simp only [Act.put, List.getElem_toArray, List.getElem_cons_zero, List.getElem_cons_succ, List.setIfInBounds_toArray, List.set_cons_zero, List.set_cons_succ]
                                      refine wpAnyH_ready (rs := [2]) (by kernel_rfl) (by simp) ?_
                                      refine (AllReadyH.cons rfl (fun K hK => ?_) AllReadyH.nil)
                                      · have cc := hide (atM_any wz.drew (.slice a1 tl c1) ⟨_, _, _, rfl⟩ 10 tln tcol)
                                        refine step_call rfl 139 #[.int .i64 10, .agg #[.slice a1 tl c1, .int .i64 tln, .int .i64 tcol]] (by simp [go_sem]) cc.out ?_
                                        rintro e wy ⟨rfl, hy⟩
                                        clear cc
                                        have HPy := hide ((HPH.out.keep ((Ex.refl (fun _ => False) wz).drew)).keep hy)
                                        have K1 := hide (HK0.out.ex hy (fun z => z) (fun z => z))
                                        have K2 := hide (K1.out.ex (erA_ex wy a) (fun z => HPH.out.na z) (fun z => HNb.out.1 z))
                                        have K3 := hide (K2.out.ex (erB_ex (erA wy a) b 10 tln tcol) (fun z => HPH.out.nb z) (fun z => HNb.out.2 z))
                                        have HPO := hide (HPbad.out 10 tln tcol _ HS1.out (HPy.out.fin 10 tln tcol))
                                        have a0 := HPy.out.a0
                                        have a1 := HPy.out.a1
                                        have af := HPy.out.af
                                        have b0 := HPy.out.b0
                                        have b1 := HPy.out.b1
                                        have b2 := HPy.out.b2
                                        have bf := HPy.out.bf
                                        have hab := HPy.out.ab
                                        have hba : b ≠ a := fun z => hab z.symm
                                        unfold erA at K2
                                        unfold erB erA at K3 HPO
                                        unfold fltV at HPO ⊢
                                        clear HPy
                                        refine ⟨_, rfl, ?_⟩
                                        refine hK.out _ _ ?_ (fun hHeld => ?_)
                                        · (first | with_reducible exact K1.out | with_reducible exact K2.out | with_reducible exact K3.out)
                                        clear hK K
                                        try simp only [Act.put, List.getElem_toArray, List.getElem_cons_zero, List.getElem_cons_succ, List.setIfInBounds_toArray, List.set_cons_zero, List.set_cons_succ]
                                        refine wpAnyH_ready (rs := [3]) (by kernel_rfl) (by simp) ?_
                                        refine (AllReadyH.cons rfl (fun K hK => ?_) AllReadyH.nil)
                                        · go_simp
                                          refine hK.out _ _ ?_ (fun hHeld => ?_)
                                          · (first | with_reducible exact K1.out | with_reducible exact K2.out | with_reducible exact K3.out)
                                          clear hK K
                                          try simp only [Act.put, List.getElem_toArray, List.getElem_cons_zero, List.getElem_cons_succ, List.setIfInBounds_toArray, List.set_cons_zero, List.set_cons_succ]
                                          refine wpAnyH_ready (rs := [4]) (by kernel_rfl) (by simp) ?_
                                          refine (AllReadyH.cons rfl (fun K hK => ?_) AllReadyH.nil)
                                          · go_simp
                                            refine hK.out _ _ ?_ (fun hHeld => ?_)
                                            · (first | with_reducible exact K1.out | with_reducible exact K2.out | with_reducible exact K3.out)
                                            clear hK K
                                            try simp only [Act.put, List.getElem_toArray, List.getElem_cons_zero, List.getElem_cons_succ, List.setIfInBounds_toArray, List.set_cons_zero, List.set_cons_succ]
                                            refine wpAnyH_done (by kernel_rfl) ?_ _
                                            clear K1 K2 K3 HK0 HPok HPbad
                                            go_wp2_with (with_reducible refine bodyPost_ret (v := .tuple #[.agg #[.int .i64 0, .slice none 0 0], .agg #[.int .i64 10, .int .i64 tln, .int .i64 tcol]]) ?hr ?hd ?hp)
                                            case hr => simp [results, Tryz.results88, go_sem, a0, a1, b0, b1, b2, hab, hba]
                                            case hd => rfl
                                            case hp => exact HPO.out
                                    · rw [if_neg hva] at HS1
                                      have hvab : decide (vv < ab1) = false := decide_eq_false hva
                                      by_cases hl1 : l1 = 0
                                      · rw [if_pos hl1] at HS1
                                        have hl1b : (l1 == 0) = true := by simp [hl1]
                                        clear hl1
                                        have HA := hide (HFz.out.al (.cells #[.slice am m cm] 30))
                                        obtain ⟨V4, ho4, hv4⟩ := HA.out.lo.ro
                                        have HO4 := hide ho4
                                        have HV4 := hide hv4
                                        clear ho4 hv4
                                        have HNC4 : Hid (∀ (jq : Nat) (u : Value), [Value.slice am m cm][jq]? = some u → (wz.alloc (.cells #[.slice am m cm] 30)).cell? ((⟨wz.heap.size, 0, none⟩ : Addr).add jq) = some u) := fun jq u hj => new_cells wz [.slice am m cm] 30 jq u hj
                                        have HNQ : Hid (¬ Value.ownBlock (.slice an n cn) = some q) := fun z => HFz.out.lo.xv q z (.inr rfl)
                                        go_upto_region 49 with (at_builtin; go_loud (refine wpList_append_lies _ rfl (.tmp 175) (.tmp 177) 27 rfl _ 30 i1 _ 1 24 Tryz.underlying27 HI1.out.1 HI1.out.2.1 HI1.out.2.2.1 HI1.out.2.2.2 rfl (by decide) (.slice an n cn) n V4 rfl HO4.out ⟨wz.heap.size, 0, none⟩ 1 1 [.slice am m cm] rfl rfl HNC4.out (fun u hu => by simp at hu; subst hu; rfl) (by decide) (by unfold maxLen; omega) (by omega) HA.out.lo.szB _ rfl ?_; intro g4 c4 w4 hr hg hat hlt2; have HFn := hide (HA.out.push HV4.out hr hg hat); have HE4 := hide (Ex.ofGrown hg (S := fun j => Value.ownBlock (.slice an n cn) = some j) (fun _ z => z.symm)); have p1 : w4.cell? ⟨q, 1, none⟩ = some (.slice an n cn) := HE4.out.cell HNQ.out HA.out.q1; have pf : ∀ j, w4.frozen? ⟨q, j, none⟩ = false := fun j => (HE4.out.frozen HNQ.out HA.out.lt).trans (HA.out.qf j); have hql : q < w4.heap.size := World.block_lt_of_cell? _ _ p1; clear hr hg hat hlt2 HE4))
                                        clear HA HNC4 HO4 HV4 HFz HNQ q1 f0 f1 f2 HPH
                                        go_wp2
                                        go_roundw
                                        case rel => exact ⟨i2 + 1, n + 1, 0, _, 0, _, _, F ++ [C], [], by go_num, rfl, by omega, by omega, by omega, HS1, HFn⟩
                                        case measure => (simp [intOf]; try omega)
                                      · rw [if_neg hl1] at HS1
                                        have hl1b : (l1 == 0) = false := by simp [hl1]
                                        clear hl1 HPH
                                        have HA := hide (HFz.out.al (.cells #[.int .i64 l1] 3))
                                        have HNC3 : Hid (∀ (jq : Nat) (u : Value), [Value.int .i64 l1][jq]? = some u → (wz.alloc (.cells #[.int .i64 l1] 3)).cell? ((⟨wz.heap.size, 0, none⟩ : Addr).add jq) = some u) := fun jq u hj => new_cells wz [.int .i64 l1] 3 jq u hj
                                        go_upto_region 51 with (at_builtin; go_loud (refine wpList_append_lies _ rfl (.tmp 181) (.tmp 183) 30 rfl _ 3 i0 _ 1 8 Tryz.underlying30 HI0.out.1 HI0.out.2.1 HI0.out.2.2.1 HI0.out.2.2.2 rfl (by decide) (.slice am m cm) m _ rfl HA.out.lo.rc ⟨wz.heap.size, 0, none⟩ 1 1 [.int .i64 l1] rfl rfl HNC3.out (fun u hu => by simp at hu; subst hu; rfl) (by decide) (by unfold maxLen; omega) (by omega) HA.out.lo.szB _ rfl ?_; intro g4 c4 w4 hr hg hat hlt2; have HFn := hide (HA.out.num hr hg hat); clear hr hg hat hlt2))
                                        clear HA HNC3 HFz q1 f0 f1 f2
                                        go_wp2
                                        go_roundw
                                        case rel => exact ⟨i2 + 1, n, m + 1, _, _, _, _, F, C ++ [l1], by go_num, rfl, by omega, by omega, by omega, HS1, HFn⟩
                                        case measure => (simp [intOf]; try omega)
                              · have hib : decide ((i2 : Int) < (n4 : Int)) = false := decide_eq_false (by omega)
                                have hin : ¬ (i2 : Int) < (n4 : Int) := by omega
                                rw [List.drop_of_length_le (by rw [HTN.out]; omega)] at HS
                                have HS1 : Hid ((if 0 < C.length then FmO.bad 11 ((kl : Int) + 1) ec else if (F.length : Int) = kk then .ok vv F else .bad 12 ((kl : Int) + 1) ec) = R0) := HS.out
                                rw [HF.out.lo.hm, HF.out.lo.hn] at HS1
                                clear HS HTX HPX
                                by_cases hm0 : 0 < m
                                · rw [if_pos hm0] at HS1
                                  have hm0b : decide ((0 : Int) < (m : Int)) = true := decide_eq_true (by omega)
                                  have hm0i : (0 : Int) < (m : Int) := by omega
                                  go_upto_region 53 with fail
                                  have HK0 : Hid ((ErN N) wv.drew) := ⟨HPH.out.n0, HPH.out.n1⟩
                                  refine wp_region_held_drew (S := ErN N) (by kernel_rfl) HK0.out (fun hHeld => ?_)
                                  refine wpAnyH_take (i := 0) (v := ?_) rfl (by kernel_rfl) (by kernel_rfl) (by kernel_rfl) (fun _ _ _ h => h) (Or.inl ⟨by rfl, ?_⟩) (by assumption) ?_
                                  rotate_left
                                  · (intro w hSw; (try dsimp only at hSw); (obtain ⟨z0, z1⟩ := hSw); go_simp; try (with_reducible rfl))
                                  try simp only [Act.put, List.getElem_toArray, List.getElem_cons_zero, List.getElem_cons_succ, List.setIfInBounds_toArray, List.set_cons_zero, List.set_cons_succ]
                                  refine wpAnyH_take (i := 1) (v := ?_) rfl (by kernel_rfl) (by kernel_rfl) (by kernel_rfl) (fun _ _ _ h => h) (Or.inl ⟨by rfl, ?_⟩) (by assumption) ?_
                                  rotate_left
                                  · (intro w hSw; (try dsimp only at hSw); go_simp; try (with_reducible rfl))
                                  try simp only [Act.put, List.getElem_toArray, List.getElem_cons_zero, List.getElem_cons_succ, List.setIfInBounds_toArray, List.set_cons_zero, List.set_cons_succ]
                                  refine wpAnyH_ready (rs := [2]) (by kernel_rfl) (by simp) ?_
                                  refine (AllReadyH.cons rfl (fun K hK => ?_) AllReadyH.nil)
                                  · have cc := hide (C137.out 11 wv.drew ((HPH.out.ex).drew))
                                    refine step_call rfl 137 #[.int .i64 11, .slice a00 X.length c] (by simp [go_sem]) cc.out ?_
                                    rintro e wy ⟨rfl, hy⟩
                                    clear cc
                                    have HPy := hide ((HPH.out.keep ((Ex.refl (fun _ => False) wv).drew)).keep hy)
                                    have K1 := hide (HK0.out.ex hy (fun z => z))
                                    have K2 := hide (K1.out.ex (erA_ex wy a) (fun z => HPH.out.na z))
                                    have K3 := hide (K2.out.ex (erB_ex (erA wy a) b 11 ((kl : Int) + 1) ec) (fun z => HPH.out.nb z))
                                    have HPO := hide (HPbad.out 11 ((kl : Int) + 1) ec _ HS1.out (HPy.out.fin 11 ((kl : Int) + 1) ec))
                                    have a0 := HPy.out.a0
                                    have a1 := HPy.out.a1
                                    have af := HPy.out.af
                                    have b0 := HPy.out.b0
                                    have b1 := HPy.out.b1
                                    have b2 := HPy.out.b2
                                    have bf := HPy.out.bf
                                    have hab := HPy.out.ab
                                    have hba : b ≠ a := fun z => hab z.symm
                                    unfold erA at K2
                                    unfold erB erA at K3 HPO
                                    unfold fltV at HPO ⊢
                                    clear HPy
                                    refine ⟨_, rfl, ?_⟩
                                    refine hK.out _ _ ?_ (fun hHeld => ?_)
                                    · (first | with_reducible exact K1.out | with_reducible exact K2.out | with_reducible exact K3.out)
                                    clear hK K
                                    try simp only [Act.put, List.getElem_toArray, List.getElem_cons_zero, List.getElem_cons_succ, List.setIfInBounds_toArray, List.set_cons_zero, List.set_cons_succ]
                                    refine wpAnyH_ready (rs := [3]) (by kernel_rfl) (by simp) ?_
                                    refine (AllReadyH.cons rfl (fun K hK => ?_) AllReadyH.nil)
                                    · go_simp
                                      refine hK.out _ _ ?_ (fun hHeld => ?_)
                                      · (first | with_reducible exact K1.out | with_reducible exact K2.out | with_reducible exact K3.out)
                                      clear hK K
                                      try simp only [Act.put, List.getElem_toArray, List.getElem_cons_zero, List.getElem_cons_succ, List.setIfInBounds_toArray, List.set_cons_zero, List.set_cons_succ]
                                      refine wpAnyH_ready (rs := [4]) (by kernel_rfl) (by simp) ?_
                                      refine (AllReadyH.cons rfl (fun K hK => ?_) AllReadyH.nil)
                                      · go_simp
                                        refine hK.out _ _ ?_ (fun hHeld => ?_)
                                        · (first | with_reducible exact K1.out | with_reducible exact K2.out | with_reducible exact K3.out)
                                        clear hK K
                                        try simp only [Act.put, List.getElem_toArray, List.getElem_cons_zero, List.getElem_cons_succ, List.setIfInBounds_toArray, List.set_cons_zero, List.set_cons_succ]
                                        refine wpAnyH_done (by kernel_rfl) ?_ _
                                        clear K1 K2 K3 HK0 HPok HPbad
                                        go_wp2_with (with_reducible refine bodyPost_ret (v := .tuple #[.agg #[.int .i64 0, .slice none 0 0], .agg #[.int .i64 11, .int .i64 ((kl : Int) + 1), .int .i64 ec]]) ?hr ?hd ?hp)
                                        case hr => simp [results, Tryz.results88, go_sem, a0, a1, b0, b1, b2, hab, hba]
                                        case hd => rfl
                                        case hp => exact HPO.out
                                · rw [if_neg hm0] at HS1
                                  have hm0b : decide ((0 : Int) < (m : Int)) = false := decide_eq_false (by omega)
                                  have hm0i : ¬ (0 : Int) < (m : Int) := by omega
                                  have q0 := HF.out.q0
                                  have q1 := HF.out.q1
                                  by_cases hnk : (n : Int) = kk
                                  rotate_left
                                  · rw [if_neg hnk] at HS1
                                    have hnkb : ((n : Int) != kk) = true := by simp [hnk]
                                    clear hnk
                                    go_upto_region 55 with fail
                                    have HK0 : Hid ((ErN N) wv.drew) := ⟨HPH.out.n0, HPH.out.n1⟩
                                    refine wp_region_held_drew (S := ErN N) (by kernel_rfl) HK0.out (fun hHeld => ?_)
                                    refine wpAnyH_take (i := 0) (v := ?_) rfl (by kernel_rfl) (by kernel_rfl) (by kernel_rfl) (fun _ _ _ h => h) (Or.inl ⟨by rfl, ?_⟩) (by assumption) ?_
                                    rotate_left
                                    · (intro w hSw; (try dsimp only at hSw); (obtain ⟨z0, z1⟩ := hSw); go_simp; try (with_reducible rfl))
                                    try simp only [Act.put, List.getElem_toArray, List.getElem_cons_zero, List.getElem_cons_succ, List.setIfInBounds_toArray, List.set_cons_zero, List.set_cons_succ]
                                    refine wpAnyH_take (i := 1) (v := ?_) rfl (by kernel_rfl) (by kernel_rfl) (by kernel_rfl) (fun _ _ _ h => h) (Or.inl ⟨by rfl, ?_⟩) (by assumption) ?_
                                    rotate_left
                                    · (intro w hSw; (try dsimp only at hSw); go_simp; try (with_reducible rfl))
                                    try simp only [Act.put, List.getElem_toArray, List.getElem_cons_zero, List.getElem_cons_succ, List.setIfInBounds_toArray, List.set_cons_zero, List.set_cons_succ]
                                    refine wpAnyH_ready (rs := [2]) (by kernel_rfl) (by simp) ?_
                                    refine (AllReadyH.cons rfl (fun K hK => ?_) AllReadyH.nil)
                                    · have cc := hide (C137.out 12 wv.drew ((HPH.out.ex).drew))
                                      refine step_call rfl 137 #[.int .i64 12, .slice a00 X.length c] (by simp [go_sem]) cc.out ?_
                                      rintro e wy ⟨rfl, hy⟩
                                      clear cc
                                      have HPy := hide ((HPH.out.keep ((Ex.refl (fun _ => False) wv).drew)).keep hy)
                                      have K1 := hide (HK0.out.ex hy (fun z => z))
                                      have K2 := hide (K1.out.ex (erA_ex wy a) (fun z => HPH.out.na z))
                                      have K3 := hide (K2.out.ex (erB_ex (erA wy a) b 12 ((kl : Int) + 1) ec) (fun z => HPH.out.nb z))
                                      have HPO := hide (HPbad.out 12 ((kl : Int) + 1) ec _ HS1.out (HPy.out.fin 12 ((kl : Int) + 1) ec))
                                      have a0 := HPy.out.a0
                                      have a1 := HPy.out.a1
                                      have af := HPy.out.af
                                      have b0 := HPy.out.b0
                                      have b1 := HPy.out.b1
                                      have b2 := HPy.out.b2
                                      have bf := HPy.out.bf
                                      have hab := HPy.out.ab
                                      have hba : b ≠ a := fun z => hab z.symm
                                      unfold erA at K2
                                      unfold erB erA at K3 HPO
                                      unfold fltV at HPO ⊢
                                      clear HPy
                                      refine ⟨_, rfl, ?_⟩
                                      refine hK.out _ _ ?_ (fun hHeld => ?_)
                                      · (first | with_reducible exact K1.out | with_reducible exact K2.out | with_reducible exact K3.out)
                                      clear hK K
                                      try simp only [Act.put, List.getElem_toArray, List.getElem_cons_zero, List.getElem_cons_succ, List.setIfInBounds_toArray, List.set_cons_zero, List.set_cons_succ]
                                      refine wpAnyH_ready (rs := [3]) (by kernel_rfl) (by simp) ?_
                                      refine (AllReadyH.cons rfl (fun K hK => ?_) AllReadyH.nil)
                                      · go_simp
                                        refine hK.out _ _ ?_ (fun hHeld => ?_)
                                        · (first | with_reducible exact K1.out | with_reducible exact K2.out | with_reducible exact K3.out)
                                        clear hK K
                                        try simp only [Act.put, List.getElem_toArray, List.getElem_cons_zero, List.getElem_cons_succ, List.setIfInBounds_toArray, List.set_cons_zero, List.set_cons_succ]
                                        refine wpAnyH_ready (rs := [4]) (by kernel_rfl) (by simp) ?_
                                        refine (AllReadyH.cons rfl (fun K hK => ?_) AllReadyH.nil)
                                        · go_simp
                                          refine hK.out _ _ ?_ (fun hHeld => ?_)
                                          · (first | with_reducible exact K1.out | with_reducible exact K2.out | with_reducible exact K3.out)
                                          clear hK K
                                          try simp only [Act.put, List.getElem_toArray, List.getElem_cons_zero, List.getElem_cons_succ, List.setIfInBounds_toArray, List.set_cons_zero, List.set_cons_succ]
                                          refine wpAnyH_done (by kernel_rfl) ?_ _
                                          clear K1 K2 K3 HK0 HPok HPbad
                                          go_wp2_with (with_reducible refine bodyPost_ret (v := .tuple #[.agg #[.int .i64 0, .slice none 0 0], .agg #[.int .i64 12, .int .i64 ((kl : Int) + 1), .int .i64 ec]]) ?hr ?hd ?hp)
                                          case hr => simp [results, Tryz.results88, go_sem, a0, a1, b0, b1, b2, hab, hba]
                                          case hd => rfl
                                          case hp => exact HPO.out
                                  · rw [if_pos hnk] at HS1
                                    have hnkb : ((n : Int) != kk) = false := by simp [hnk]
                                    clear hnk
                                    have a0 := HPH.out.a0
                                    have a1 := HPH.out.a1
                                    have af := HPH.out.af
                                    have b0 := HPH.out.b0
                                    have b1 := HPH.out.b1
                                    have b2 := HPH.out.b2
                                    have bf := HPH.out.bf
                                    have hab := HPH.out.ab
                                    have hba : b ≠ a := fun z => hab z.symm
                                    have HPO := hide (HPok.out vv F (.slice an n cn) n ((((((wv.setCell ⟨a, 0, none⟩ (.int .i64 vv)).setCell ⟨a, 1, none⟩ (.slice an n cn)).setCell ⟨b, 0, none⟩ (.int .i64 0)).setCell ⟨b, 1, none⟩ (.int .i64 0)).setCell ⟨b, 2, none⟩ (.int .i64 0))) HS1.out (by have e : Ex (fun j => j = a ∨ j = b) wv ((((((wv.setCell ⟨a, 0, none⟩ (.int .i64 vv)).setCell ⟨a, 1, none⟩ (.slice an n cn)).setCell ⟨b, 0, none⟩ (.int .i64 0)).setCell ⟨b, 1, none⟩ (.int .i64 0)).setCell ⟨b, 2, none⟩ (.int .i64 0))) := (((((Ex.refl (fun j => j = a ∨ j = b) wv).set (p := a) (.inl rfl) _).set (p := a) (.inl rfl) _).set (p := b) (.inr rfl) _).set (p := b) (.inr rfl) _).set (p := b) (.inr rfl) _; exact HPH.out.ex.trans2 e (fun j z => .inr (by rcases z with z | z; subst z; exact HPH.out.ga; subst z; exact HPH.out.gb))) (by have e : Ex (fun j => j = a ∨ j = b) wv ((((((wv.setCell ⟨a, 0, none⟩ (.int .i64 vv)).setCell ⟨a, 1, none⟩ (.slice an n cn)).setCell ⟨b, 0, none⟩ (.int .i64 0)).setCell ⟨b, 1, none⟩ (.int .i64 0)).setCell ⟨b, 2, none⟩ (.int .i64 0))) := (((((Ex.refl (fun j => j = a ∨ j = b) wv).set (p := a) (.inl rfl) _).set (p := a) (.inl rfl) _).set (p := b) (.inr rfl) _).set (p := b) (.inr rfl) _).set (p := b) (.inr rfl) _; exact ((HF.out.lo.shut.lp (fun j z => .inl z)).under e (fun j z => by have := HLW.out; rcases z with z | z <;> omega)).base (Nat.le_of_lt HLW.out.1)))
                                    unfold fltV at HPO
                                    clear HPH HF HPok HPbad
                                    go_wp2_with (with_reducible refine bodyPost_ret (v := .tuple #[.agg #[.int .i64 vv, .slice an n cn], .agg #[.int .i64 0, .int .i64 0, .int .i64 0]]) ?hr ?hd ?hp)
                                    case hr => simp [results, Tryz.results88, go_sem, a0, a1, b0, b1, b2, hab, hba]
                                    case hd => rfl
                                    case hp => exact HPO.out
end Go.Proofs.Qxb6500773aGreat
