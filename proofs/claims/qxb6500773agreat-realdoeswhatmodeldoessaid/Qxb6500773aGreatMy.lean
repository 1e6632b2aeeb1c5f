import Derived.Test.Qxb6500773aGreatMy0
namespace Go.Proofs.Qxb6500773aGreat
open Go.RowKit

set_option linter.unusedSimpArgs false in
set_option maxRecDepth 100000 in
set_option maxHeartbeats 8000000 in
/-- cnfm.ParseDrat -/
theorem parseDratM_any (w : World) (a : Option Addr) (c : Nat) (X : List Int) (h : UL w a X) (hl : X.length ≤ 1000000000) :
    Calls Tryz.prog 90 #[.slice a X.length c] w (DroPost w (drP X)) := by
  obtain ⟨i0, hi0, hz0, hz1, hz2⟩ := info_of Tryz.info3
  have HI0 := hide (And.intro hi0 (And.intro hz0 (And.intro hz1 hz2)))
  clear hi0 hz0 hz1 hz2
  obtain ⟨i1, hi0, hz0, hz1, hz2⟩ := info_of Tryz.info136
  have HI1 := hide (And.intro hi0 (And.intro hz0 (And.intro hz1 hz2)))
  clear hi0 hz0 hz1 hz2
  obtain ⟨kl, hkl⟩ : ∃ kl, (lnP X).length = kl + 1 := ⟨(lnP X).length - 1, by have := lnA_pos X [] []; unfold lnP; omega⟩
  have HR : Hid (drA ((kl : Int) + 1) (eolM X kl) [] false [] ((tkP X).drop 0) = drP X) := by show _ = _; unfold drP; rw [hkl]; rfl
  have C137 : Hid (∀ w', Ex (fun _ => False) w w' → Calls Tryz.prog 137 #[.int .i64 11, .slice a X.length c] w' (ExPost w' (fltV 11 ((kl : Int) + 1) (eolM X kl)))) := fun w' e => atEndM_any w' a c X 11 kl (h.keep e) hl hkl
  have c136 := hide (tokensM_any (pdW w) a c X (h.keep (pd_ex w)) hl)
  have HTL : Hid ((tkP X).length ≤ 1000000000) := Nat.le_trans (tkP_le X) hl
  have HTT : Hid (∀ t ∈ tkP X, t.t.length ≤ 1000000000) := fun t ht => Nat.le_trans (tkP_txt ht) hl
  clear h hkl
  have HPok : Hid (∀ P v n w', DrO.ok P = drP X → Ex (fun _ => False) w w' → LP .i64 e2 t2 2 136 w.heap.size w' P v n → DroPost w (drP X) (.returned (.tuple #[v, fltV 0 0 0])) w') := fun P v n w' e1 e2 e3 => by rw [← e1]; exact ⟨e2, v, n, rfl, e3⟩
  have HPbad : Hid (∀ er ln col w', DrO.bad er ln col = drP X → Ex (fun _ => False) w w' → DroPost w (drP X) (.returned (.tuple #[.slice none 0 0, fltV er ln col])) w') := fun er ln col w' e1 e2 => by rw [← e1]; exact ⟨e2, rfl⟩
  obtain ⟨R, hR⟩ : ∃ R, DroPost w (drP X) = R := ⟨_, rfl⟩
  rw [hR] at HPok HPbad ⊢
  clear hR
  generalize drP X = R0 at *
  generalize eolM X kl = ec at *
  generalize tkP X = Ts at *
  have HPW : Hid (pdW w = pdW w) := rfl
  have HPX := hide (pd_ex w)
  have HPS := hide (pd_size w)
  have HND : Hid (∀ w2, Ex (fun _ => False) (pdW w) w2 → _) := fun w2 e => pd_new e
  unfold pdW at c136 HPX HPS HND
  go_enter Tryz.func90, Tryz.ntmps90
  go_wp2_with fail
  refine c136.out.mono ?_
  rintro e w2 ⟨vt, nt, rfl, hlp, hex⟩
  clear c136
  have HLP := hide hlp
  have HDS0 := hide (HND.out w2 hex)
  have HEw : Hid (Ex (fun _ => False) w w2) := HPX.out.trans hex
  have HLB : Hid (LP .u8 e3 t3 3 181 (w.heap.size + 4) w2 Ts vt nt) := by have := hlp; rw [HPS.out] at this; exact this
  have hnt : nt ≤ 1000000000 := by have := HTL.out; have := hlp.hn; omega
  clear hlp hex HND HPX HPS HLP HPW
  generalize hB : w.heap.size = B at *
  have HBW : Hid (w.heap.size ≤ B) := Nat.le_of_eq hB
  clear hB
  obtain ⟨at1, ct, hvt⟩ : ∃ at1 ct, vt = .slice at1 nt ct := by obtain ⟨V, h1, _⟩ := HLB.out.ro; exact own_form h1
  subst hvt
  generalize hq : B + 1 + 1 + 1 = q at *
  clear hq
  go_wp2_with fail
  go_loopw [4, 16] (fun s4 s16 wx => ∃ (i n m cn cm : Nat) (an am : Option Addr) (P : List (Bool × List Int)) (d : Bool) (C : List Int), s16 = .int .i64 i ∧ s4 = .slice an n cn ∧ i ≤ nt ∧ n ≤ i ∧ m ≤ i ∧ Hid (drA ((kl : Int) + 1) ec P d C (Ts.drop i) = R0) ∧ Hid (DS w2 B (B + 4) B q wx P (.slice an n cn) n d C (.slice am m cm) m (.slice am m cm))) (fun _ s16 _ => nt - (intOf s16).toNat)
  case atStart => exact ⟨0, 0, 0, 0, 0, _, _, [], false, [], rfl, rfl, Nat.zero_le _, Nat.le_refl _, Nat.le_refl _, HR, HDS0⟩
  case round =>
    clear HR HDS0
    obtain ⟨i, n, m, cn, cm, an, am, P, d, C, rfl, rfl, hi, hni, hmi, HS, HD⟩ := hrel
    generalize hgw : wr = wl at *
    clear hgw
    have hw1 : wrap64 ((i : Int) + 1) = ((i + 1 : Nat) : Int) := by unfold wrap64; omega
    by_cases hlt : i < nt
    · have hib : decide ((i : Int) < (nt : Int)) = true := decide_eq_true (by omega)
      have hii : (i : Int) < (nt : Int) := by omega
      obtain ⟨t, ht⟩ : ∃ t, Ts[i]? = some t := ⟨_, List.getElem?_eq_getElem (by rw [HLB.out.hn]; exact hlt)⟩
      rw [drop_consG ht] at HS
      obtain ⟨gt, cv, a1, c1, ev, -, hcl, hik, hcc, hcm, hblk⟩ := HLB.out.at (s := 3) (fun _ _ => rfl) ht
      injection ev with ev _ ev2
      subst ev ev2
      have hrow : B + 4 ≤ gt := by obtain ⟨V, h1, _⟩ := HLB.out.ro; exact (h1.lt gt rfl).1
      have x0 : wl.cell? ⟨gt, i * 3, none⟩ = some (.slice a1 t.t.length c1) := HD.out.lo.ex.cell (fun z => by omega) (hcl 0 (by decide) _ rfl)
      have x1 : wl.cell? ⟨gt, i * 3 + 1, none⟩ = some (.int .i64 t.ln) := HD.out.lo.ex.cell (fun z => by omega) (hcl 1 (by decide) _ rfl)
      have x2 : wl.cell? ⟨gt, i * 3 + 2, none⟩ = some (.int .i64 t.col) := HD.out.lo.ex.cell (fun z => by omega) (hcl 2 (by decide) _ rfl)
      have HIK : Hid (∀ wx, Ex (fun j => B ≤ j ∧ j < B + 4) w2 wx → UL wx a1 t.t) := fun wx hx => (hik.keep hx (fun g off ea z => (hblk g off ea).2 (.inr z.2))).ul
      have HCC : Hid (t.t.length ≤ c1 ∧ c1 ≤ maxLen ∧ t.t.length ≤ 1000000000) := ⟨hcc, hcm, HTT.out t (List.mem_of_getElem? ht)⟩
      clear hcl hik hblk ht hrow hcc hcm
      have HS1 : Hid ((if t.t = [100] ∧ d = false ∧ C.length = 0 then drA ((kl : Int) + 1) ec P true C (Ts.drop (i + 1)) else if (litM t.t).2 ≠ 0 then .bad (litM t.t).2 t.ln t.col else if (litM t.t).1 = 0 then drA ((kl : Int) + 1) ec (P ++ [(d, C)]) false [] (Ts.drop (i + 1)) else drA ((kl : Int) + 1) ec P d (C ++ [(litM t.t).1]) (Ts.drop (i + 1))) = R0) := HS.out
      clear HS
      rw [HD.out.lo.hm] at HS1
      obtain ⟨tt, tln, tcol⟩ := t
      dsimp only at HS1 HIK HCC x0 x1 x2
      obtain ⟨tl, htl⟩ : ∃ z, tt.length = z := ⟨_, rfl⟩
      rw [htl] at x0 HCC
      have HTL2 := hide htl
      clear htl
      have HDt := hide (HD.out.al (.cells #[.slice a1 tl c1, .int .i64 tln, .int .i64 tcol] 181))
      have f0 : (wl.alloc (.cells #[.slice a1 tl c1, .int .i64 tln, .int .i64 tcol] 181)).cell? ⟨wl.heap.size, 0, none⟩ = some (.slice a1 tl c1) := new_cells wl [.slice a1 tl c1, .int .i64 tln, .int .i64 tcol] 181 0 _ rfl
      have f1 : (wl.alloc (.cells #[.slice a1 tl c1, .int .i64 tln, .int .i64 tcol] 181)).cell? ⟨wl.heap.size, 1, none⟩ = some (.int .i64 tln) := new_cells wl [.slice a1 tl c1, .int .i64 tln, .int .i64 tcol] 181 1 _ rfl
      have f2 : (wl.alloc (.cells #[.slice a1 tl c1, .int .i64 tln, .int .i64 tcol] 181)).cell? ⟨wl.heap.size, 2, none⟩ = some (.int .i64 tcol) := new_cells wl [.slice a1 tl c1, .int .i64 tln, .int .i64 tcol] 181 2 _ rfl
      go_upto_region 6 with fail
      clear x0 x1 x2 HD
      generalize wl.alloc (.cells #[.slice a1 tl c1, .int .i64 tln, .int .i64 tcol] 181) = wt at *
      generalize wl.heap.size = bt at *
      have c138 : Hid (Calls Tryz.prog 138 #[.agg #[.slice a1 tl c1, .int .i64 tln, .int .i64 tcol], .int .u8 100, .int .u8 0, .int .u8 0] wt (ExPost wt (.bool (tt == [100])))) := by have := is1M_any wt a1 c1 tt tln tcol 100 (HIK.out wt HDt.out.lo.ex) (by rw [HTL2.out]; exact HCC.out.2.2); rw [HTL2.out] at this; exact this
      have C143 : Hid (∀ wx, Ex (fun _ => False) wt wx → Calls Tryz.prog 143 #[.agg #[.slice a1 tl c1, .int .i64 tln, .int .i64 tcol]] wx (ExPost wx (.tuple #[.int .i64 (litM tt).1, .int .i64 (litM tt).2]))) := fun wx e => by have := literalM_any wx a1 c1 tt tln tcol (HIK.out wx (HDt.out.lo.ex.trans2 e (fun _ z => z.elim))) (by rw [HTL2.out]; exact HCC.out.1) HCC.out.2.1 (by rw [HTL2.out]; have := HCC.out.2.2; omega); rw [HTL2.out] at this; exact this
      clear HIK HCC HTL2
      obtain ⟨isd, hisd⟩ : ∃ z, (tt == [100]) = z := ⟨_, rfl⟩
      rw [hisd] at c138
      have HSD : Hid ((if (isd && !d && decide (m = 0)) = true then drA ((kl : Int) + 1) ec P true C (Ts.drop (i + 1)) else if (litM tt).2 ≠ 0 then .bad (litM tt).2 tln tcol else if (litM tt).1 = 0 then drA ((kl : Int) + 1) ec (P ++ [(d, C)]) false [] (Ts.drop (i + 1)) else drA ((kl : Int) + 1) ec P d (C ++ [(litM tt).1]) (Ts.drop (i + 1))) = R0) := by
        have e : (isd && !d && decide (m = 0)) = true ↔ tt = [100] ∧ d = false ∧ m = 0 := by rw [← hisd]; simp [and_assoc]
        by_cases z : tt = [100] ∧ d = false ∧ m = 0
        · have := HS1.out; rw [if_pos z] at this; rw [if_pos (e.2 z)]; exact this
        · have := HS1.out; rw [if_neg z] at this; rw [if_neg (fun y => z (e.1 y))]; exact this
      clear HS1 hisd
      generalize litM tt = lt at *
      have q0 := HDt.out.q0
      have q1 := HDt.out.q1
      go_cut [32] (fun v wx => v = .bool (isd && !d && decide (m = 0)) ∧ Hid (Ex (fun _ => False) wt wx))
      case first =>
        clear C143 HSD HPok HPbad C137
        go_wp2_with fail
        refine c138.out.mono ?_
        rintro e wz ⟨rfl, hz⟩
        clear c138
        have HZ := hide hz
        replace q0 := hz.cell (fun z => z) q0
        replace q1 := hz.cell (fun z => z) q1
        clear hz
        cases isd
        · go_wp2
          go_meet
          exact ⟨rfl, HZ⟩
        · cases d
          · go_wp2
            go_meet
            exact ⟨by simp [beq_int0], HZ⟩
          · go_wp2
            go_meet
            exact ⟨rfl, HZ⟩
      obtain ⟨rfl, HXc⟩ := hcut
      have HDc := hide (HDt.out.keep HXc.out)
      have c143 := hide (C143.out wc HXc.out)
      replace f0 := HXc.out.cell (fun z => z) f0
      replace f1 := HXc.out.cell (fun z => z) f1
      replace f2 := HXc.out.cell (fun z => z) f2
      clear HDt C143 c138 q0 q1 HXc
      obtain ⟨isg, hisg⟩ : ∃ z, (isd && !d && decide (m = 0)) = z := ⟨_, rfl⟩
      rw [hisg] at HSD ⊢
      cases isg
      rotate_left
      · rw [if_pos rfl] at HSD
        have HDn := hide (HDc.out.st0 true)
        have q0 := HDc.out.q0
        have qf := HDc.out.qf
        have hd0 : d = false := by cases d; rfl; simp at hisg
        clear HDc hisg
        go_wp2
        go_roundw
        case rel => exact ⟨i + 1, n, m, _, _, _, _, P, true, C, by go_num, rfl, by omega, by omega, by omega, HSD, HDn⟩
        case measure => (simp [intOf]; try omega)
      · rw [if_neg (by simp)] at HSD
        clear hisg
        go_wp2_with fail
        refine c143.out.mono ?_
        rintro e wz ⟨rfl, hz⟩
        clear c143
        have HDz := hide (HDc.out.keep hz)
        replace f0 := hz.cell (fun z => z) f0
        replace f1 := hz.cell (fun z => z) f1
        replace f2 := hz.cell (fun z => z) f2
        clear HDc hz
        obtain ⟨l1, l2⟩ := lt
        dsimp only at HSD ⊢
        by_cases hl2 : l2 = 0
        rotate_left
        · rw [if_pos hl2] at HSD
          have hl2b : (l2 != 0) = true := by simp [hl2]
          have c139 := hide (atM_any wz (.slice a1 tl c1) ⟨_, _, _, rfl⟩ l2 tln tcol)
          unfold fltV at c139
          clear hl2
          go_wp2_with fail
          refine c139.out.mono ?_
          rintro e wy ⟨rfl, hy⟩
          clear c139
          have HDy := hide (HDz.out.keep hy)
          have b0 := HDy.out.b0
          have b1 := HDy.out.b1
          have b2 := HDy.out.b2
          have bf := HDy.out.bf
          have HPO := hide (HPbad.out l2 tln tcol (((wy.setCell ⟨B, 0, none⟩ (.int .i64 l2)).setCell ⟨B, 1, none⟩ (.int .i64 tln)).setCell ⟨B, 2, none⟩ (.int .i64 tcol)) HSD.out (by have := HEw.out.trans2 HDy.out.lo.ex (fun j z => .inr (Nat.le_trans HBW.out z.1)); exact ((this.setNew HBW.out _).setNew HBW.out _).setNew HBW.out _))
          unfold fltV at HPO
          clear HDy HDz hy HPok HPbad C137 HSD
          go_wp2_with (with_reducible refine bodyPost_ret (v := .tuple #[.slice none 0 0, .agg #[.int .i64 l2, .int .i64 tln, .int .i64 tcol]]) ?hr ?hd ?hp)
          case hr => simp [results, Tryz.results90, go_sem, b0, b1, b2]
          case hd => rfl
          case hp => exact HPO.out
        · rw [if_neg (by simp [hl2])] at HSD
          have hl2b : (l2 != 0) = false := by simp [hl2]
          have HL2 := hide hl2
          clear hl2
          by_cases hl1 : l1 = 0
          · rw [if_pos hl1] at HSD
            have hl1b : (l1 == 0) = true := by simp [hl1]
            clear hl1
            have q0 := HDz.out.q0
            have q1 := HDz.out.q1
            have HA := hide (HDz.out.al (.cells #[.bool d, .slice am m cm] 136))
            obtain ⟨V4, ho4, hv4⟩ := HA.out.lo.ro
            have HO4 := hide ho4
            have HV4 := hide hv4
            clear ho4 hv4
            have HNC4 : Hid (∀ (jq : Nat) (u : Value), [Value.bool d, .slice am m cm][jq]? = some u → (wz.alloc (.cells #[.bool d, .slice am m cm] 136)).cell? ((⟨wz.heap.size, 0, none⟩ : Addr).add jq) = some u) := fun jq u hj => new_cells wz [.bool d, .slice am m cm] 136 jq u hj
            go_upto_region 13 with (at_builtin; go_loud (refine wpList_append_lies _ rfl (.tmp 46) (.tmp 48) 31 rfl _ 136 i1 _ 2 32 Tryz.underlying31 HI1.out.1 HI1.out.2.1 HI1.out.2.2.1 HI1.out.2.2.2 rfl (by decide) (.slice an n cn) n V4 rfl HO4.out ⟨wz.heap.size, 0, none⟩ 1 1 [.bool d, .slice am m cm] rfl rfl HNC4.out (fun u hu => by simp at hu; rcases hu with hu | hu <;> (subst hu; rfl)) (by decide) (by unfold maxLen; omega) (by omega) HA.out.lo.szB _ rfl ?_; intro g4 c4 w4 hr hg hat hlt2; have HDn := hide (HA.out.push HV4.out hr hg hat); have HE4 := hide (Ex.ofGrown hg (S := fun j => Value.ownBlock (.slice an n cn) = some j) (fun _ z => z.symm)); clear hr hg hat hlt2))
            have HNQ : Hid (¬ Value.ownBlock (.slice an n cn) = some q) := fun z => HDz.out.lo.xv q z (.inr (.inr rfl))
            have p0 : w4.cell? ⟨q, 0, none⟩ = some (.bool d) := HE4.out.cell HNQ.out HA.out.q0
            have p1 : w4.cell? ⟨q, 1, none⟩ = some (.slice am m cm) := HE4.out.cell HNQ.out HA.out.q1
            have pf : ∀ j, w4.frozen? ⟨q, j, none⟩ = false := fun j => (HE4.out.frozen HNQ.out HA.out.lt.1).trans (HA.out.qf j)
            have hql : q < w4.heap.size := World.block_lt_of_cell? _ _ p0
            clear HA HNC4 HO4 HV4 HDz HE4 HNQ q0 q1 f0 f1 f2
            go_wp2
            go_roundw
            case rel => exact ⟨i + 1, n + 1, 0, _, 0, _, _, P ++ [(d, C)], false, [], by go_num, rfl, by omega, by omega, by omega, HSD, HDn⟩
            case measure => (simp [intOf]; try omega)
          · rw [if_neg hl1] at HSD
            have hl1b : (l1 == 0) = false := by simp [hl1]
            clear hl1
            have q1 := HDz.out.q1
            have HA := hide (HDz.out.al (.cells #[.int .i64 l1] 3))
            have HNC3 : Hid (∀ (jq : Nat) (u : Value), [Value.int .i64 l1][jq]? = some u → (wz.alloc (.cells #[.int .i64 l1] 3)).cell? ((⟨wz.heap.size, 0, none⟩ : Addr).add jq) = some u) := fun jq u hj => new_cells wz [.int .i64 l1] 3 jq u hj
            go_upto_region 15 with (at_builtin; go_loud (refine wpList_append_lies _ rfl (.tmp 53) (.tmp 55) 30 rfl _ 3 i0 _ 1 8 Tryz.underlying30 HI0.out.1 HI0.out.2.1 HI0.out.2.2.1 HI0.out.2.2.2 rfl (by decide) (.slice am m cm) m _ rfl HA.out.lo.rc ⟨wz.heap.size, 0, none⟩ 1 1 [.int .i64 l1] rfl rfl HNC3.out (fun u hu => by simp at hu; subst hu; rfl) (by decide) (by unfold maxLen; omega) (by omega) HA.out.lo.szB _ rfl ?_; intro g4 c4 w4 hr hg hat hlt2; have HDm := hide (HA.out.num hr hg hat); have HDn := hide (HDm.out.st1 (.slice (some ⟨g4, 0, none⟩) (m + 1) c4)); have p1 := HDm.out.q1; have pf := HDm.out.qf; clear hr hg hat hlt2 HDm))
            clear HA HNC3 HDz q1 f0 f1 f2
            go_wp2
            go_roundw
            case rel => exact ⟨i + 1, n, m + 1, _, _, _, _, P, d, C ++ [l1], by go_num, rfl, by omega, by omega, by omega, HSD, HDn⟩
            case measure => (simp [intOf]; try omega)
    · have hib : decide ((i : Int) < (nt : Int)) = false := decide_eq_false (by omega)
      rw [List.drop_of_length_le (by rw [HLB.out.hn]; omega)] at HS
      have HS1 : Hid ((if d = true ∨ 0 < C.length then DrO.bad 11 ((kl : Int) + 1) ec else .ok P) = R0) := HS.out
      rw [HD.out.lo.hm] at HS1
      have q0 := HD.out.q0
      have q1 := HD.out.q1
      have hik : ¬ (i : Int) < (nt : Int) := by omega
      have c137 := hide (C137.out wl (HEw.out.trans2 HD.out.lo.ex (fun j z => .inr (Nat.le_trans HBW.out z.1))))
      unfold fltV at c137
      clear HS C137
      go_upto_region 16 with fail
      go_cut [66] (fun v wx => v = .bool (d || decide (0 < m)) ∧ wx = wl)
      case first =>
        cases d
        · go_wp2
          go_meet
          exact ⟨by simp, rfl⟩
        · go_wp2
          go_meet
          exact ⟨rfl, rfl⟩
      obtain ⟨rfl, rfl⟩ := hcut
      obtain ⟨ff, hff⟩ : ∃ z, (d || decide (0 < m)) = z := ⟨_, rfl⟩
      rw [hff]
      cases ff
      · rw [if_neg (by simp at hff; rintro (z | z); rw [hff.1] at z; cases z; omega)] at HS1
        have HPO := hide (HPok.out P (.slice an n cn) n (((wc.setCell ⟨B, 0, none⟩ (.int .i64 0)).setCell ⟨B, 1, none⟩ (.int .i64 0)).setCell ⟨B, 2, none⟩ (.int .i64 0)) HS1.out (by have := HEw.out.trans2 HD.out.lo.ex (fun j z => .inr (Nat.le_trans HBW.out z.1)); exact ((this.setNew HBW.out _).setNew HBW.out _).setNew HBW.out _) (by have e : Ex (fun j => j = B) wc (((wc.setCell ⟨B, 0, none⟩ (.int .i64 0)).setCell ⟨B, 1, none⟩ (.int .i64 0)).setCell ⟨B, 2, none⟩ (.int .i64 0)) := (((Ex.refl (fun j => j = B) wc).set (p := B) rfl _).set (p := B) rfl _).set (p := B) rfl _; exact (HD.out.lo.shut.aside e (fun j z => .inr (.inl z)) (fun j z => .inl (by subst z; exact HD.out.hb))).lp (fun j z => .inl z)))
        unfold fltV at HPO
        have b0 := HD.out.b0
        have b1 := HD.out.b1
        have b2 := HD.out.b2
        have bf := HD.out.bf
        clear HD HPok HPbad c137 hff HS1 q0 q1
        go_wp2_with (with_reducible refine bodyPost_ret (v := .tuple #[.slice an n cn, .agg #[.int .i64 0, .int .i64 0, .int .i64 0]]) ?hr ?hd ?hp)
        case hr => simp [results, Tryz.results90, go_sem, b0, b1, b2]
        case hd => rfl
        case hp => exact HPO.out
      · rw [if_pos (by simpa using hff)] at HS1
        clear hff q0 q1
        go_wp2_with fail
        refine c137.out.mono ?_
        rintro e wy ⟨rfl, hy⟩
        clear c137
        have HDy := hide (HD.out.keep hy)
        have b0 := HDy.out.b0
        have b1 := HDy.out.b1
        have b2 := HDy.out.b2
        have bf := HDy.out.bf
        have HPO := hide (HPbad.out 11 ((kl : Int) + 1) ec (((wy.setCell ⟨B, 0, none⟩ (.int .i64 11)).setCell ⟨B, 1, none⟩ (.int .i64 ((kl : Int) + 1))).setCell ⟨B, 2, none⟩ (.int .i64 ec)) HS1.out (by have := HEw.out.trans2 HDy.out.lo.ex (fun j z => .inr (Nat.le_trans HBW.out z.1)); exact ((this.setNew HBW.out _).setNew HBW.out _).setNew HBW.out _))
        unfold fltV at HPO
        clear HDy HD hy HPok HPbad HS1
        go_wp2_with (with_reducible refine bodyPost_ret (v := .tuple #[.slice none 0 0, .agg #[.int .i64 11, .int .i64 ((kl : Int) + 1), .int .i64 ec]]) ?hr ?hd ?hp)
        case hr => simp [results, Tryz.results90, go_sem, b0, b1, b2]
        case hd => rfl
        case hp => exact HPO.out
end Go.Proofs.Qxb6500773aGreat
