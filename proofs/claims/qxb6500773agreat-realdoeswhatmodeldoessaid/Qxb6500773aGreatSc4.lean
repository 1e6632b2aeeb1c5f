import Derived.Test.Qxb6500773aGreatSc3
namespace Go.Proofs.Qxb6500773aGreat
open Go.RowKit

/-- The digits from i on: the value and whether it is beyond the limit; none where a byte is no digit. -/
def digL (T : Nat → Int) (e : Nat) (lim : Int) : Nat → Nat → Int → Bool → Option (Int × Bool)
  | 0, _, v, g => some (v, g)
  | k + 1, i, v, g => if i < e then (if digitP (T i) = true then (if g = true then digL T e lim k (i + 1) v true else digL T e lim k (i + 1) (v * 10 + (T i - 48)) (decide (lim < v * 10 + (T i - 48)))) else none) else some (v, g)
theorem digL_end (T : Nat → Int) {e : Nat} (lim : Int) {i : Nat} (v : Int) (g : Bool) (h : ¬ i < e) : digL T e lim (e - i) i v g = some (v, g) := by
  rw [show e - i = 0 by omega]
  rfl
theorem digL_step (T : Nat → Int) {e : Nat} (lim : Int) {i : Nat} (v : Int) (g : Bool) (h : i < e) : digL T e lim (e - i) i v g = if digitP (T i) = true then (if g = true then digL T e lim (e - (i + 1)) (i + 1) v true else digL T e lim (e - (i + 1)) (i + 1) (v * 10 + (T i - 48)) (decide (lim < v * 10 + (T i - 48)))) else none := by
  rw [show e - i = e - (i + 1) + 1 by omega, digL, if_pos h]
def numR (neg : Bool) : Option (Int × Bool) → Int × Int
  | none => (0, 0)
  | some (v, g) => if g = true then (0, 1) else if neg = true then (if v = 0 then (0, 0) else (-v, 2)) else (v, 2)
theorem numR_some (neg : Bool) (v : Int) (g : Bool) : numR neg (some (v, g)) = if g = true then (0, 1) else if neg = true then (if v = 0 then (0, 0) else (-v, 2)) else (v, 2) := rfl
/-- What number answers: value and class (0 none, 1 too big, 2 good). -/
def numP (T : Nat → Int) (off e : Nat) (lim : Int) (sg : Bool) : Int × Int :=
  let neg := sg && (decide (off < e) && (T off == 45))
  let i := if neg = true then off + 1 else off
  if i = e then (0, 0) else numR neg (digL T e lim (e - i) i 0 false)
def NuPost (w : World) (s : Nat) (a : Option Addr) (n c : Nat) (T : Nat → Int) (off : Nat) (line : Int) (bol : Nat) (e : Nat) (R : Int × Int) (en : Ending) (w' : World) : Prop := en = .returned (.tuple #[.int .i64 R.1, .int .i64 R.2]) ∧ SC w' s a n c T (if R.2 = 2 then e else off) line bol ∧ Ex (fun k => k = s) w w'
theorem tokE_rng (T : Nat → Int) (n : Nat) : ∀ k i, i ≤ n → i ≤ tokE T n k i ∧ tokE T n k i ≤ n
  | 0, i, h => ⟨Nat.le_refl _, h⟩
  | k + 1, i, h => by
    rw [tokE]
    split
    · next hc => have := tokE_rng T n k (i + 1) (by omega); omega
    · exact ⟨Nat.le_refl _, h⟩
set_option linter.unusedSimpArgs false in
set_option maxRecDepth 100000 in
set_option maxHeartbeats 8000000 in
/-- cnf.scanner.number -/
theorem number_any (w : World) (s n c off bol : Nat) (a : Option Addr) (T : Nat → Int) (line lim : Int) (sg : Bool) (h : SC w s a n c T off line bol) (hn : n ≤ 4611686018427387904) (ho : off ≤ n) (hl : 0 ≤ lim ∧ lim ≤ 1000000000000) :
    Calls Tryz.prog 151 #[.pointer (some ⟨s, 0, none⟩), .int .i64 lim, .bool sg] w (NuPost w s a n c T off line bol (tokE T n (n - off) off) (numP T off (tokE T n (n - off) off) lim sg)) := by
  have HS := hide h
  clear h
  have HR := hide (tokE_rng T n (n - off) off ho)
  have ct := hide (tokenEnd_any w s n c off bol a T line HS.out hn ho)
  obtain ⟨e, he⟩ : ∃ e, tokE T n (n - off) off = e := ⟨_, rfl⟩
  rw [he] at HR ct ⊢
  clear he
  have hoe := HR.out.1
  have hen := HR.out.2
  clear HR
  have c0 := HS.out.c0
  have c1 := HS.out.c1
  have HBAD := hide (show (numP T off e lim sg) = (0, 0) → NuPost w s a n c T off line bol e (numP T off e lim sg) (.returned (.tuple #[.int .i64 0, .int .i64 0])) w from fun z => by rw [z]; exact ⟨rfl, HS.out, Ex.refl _ _⟩)
  have HBIG := hide (show (numP T off e lim sg) = (0, 1) → NuPost w s a n c T off line bol e (numP T off e lim sg) (.returned (.tuple #[.int .i64 0, .int .i64 1])) w from fun z => by rw [z]; exact ⟨rfl, HS.out, Ex.refl _ _⟩)
  have HOKK := hide (show ∀ v, (numP T off e lim sg) = (v, 2) → NuPost w s a n c T off line bol e (numP T off e lim sg) (.returned (.tuple #[.int .i64 v, .int .i64 2])) (w.setCell ⟨s, 1, none⟩ (.int .i64 e)) from fun v z => by rw [z]; exact ⟨rfl, by show SC _ s a n c T (if (2 : Int) = 2 then e else off) line bol; rw [if_pos rfl]; exact (HS.out.setOff e).1, (HS.out.setOff e).2⟩)
  -- the sign
  have HSG := hide (show ∃ (neg : Bool) (i : Nat), (sg && (decide (off < e) && (T off == 45))) = neg ∧ (if neg = true then off + 1 else off) = i ∧ off ≤ i ∧ i ≤ e from by
    refine ⟨_, _, rfl, rfl, ?_, ?_⟩
    · split <;> omega
    · split
      · next z => simp at z; omega
      · exact hoe)
  obtain ⟨neg, i, hneg, hi, hoi, hie⟩ := HSG.out
  have HNP := hide (show numP T off e lim sg = if i = e then (0, 0) else numR neg (digL T e lim (e - i) i 0 false) from by
    unfold numP
    dsimp only
    rw [hneg, hi])
  have HNG := hide hneg
  have HII := hide hi
  clear HSG hneg hi
  obtain ⟨R, hR⟩ : ∃ R, numP T off e lim sg = R := ⟨_, rfl⟩
  rw [hR] at HBAD HBIG HOKK HNP ⊢
  clear hR
  go_enter Tryz.func151, Tryz.ntmps151
  go_wp2_with fail
  refine ct.out.mono ?_
  rintro en w' ⟨rfl, rfl⟩
  clear ct
  go_upto_region 4 with fail
  cases sg
  · have hn0 : neg = false := by rw [← HNG.out]; rfl
    subst hn0
    obtain rfl : off = i := HII.out
    clear HII HNG
    go_upto_region 7 with fail
    by_cases hieq : off = e
    · have hib : ((off : Int) == (e : Int)) = true := by simp; omega
      have HP := hide (HBAD.out (by rw [HNP.out, if_pos hieq]))
      clear hieq
      go_wp2
      exact bodyPost_ret (v := .tuple #[.int .i64 0, .int .i64 0]) (by simp [results, Tryz.results151, go_sem]) rfl HP.out
    · have hib : ((off : Int) == (e : Int)) = false := by simp; omega
      replace HNP := hide (show R = numR false (digL T e lim (e - off) off 0 false) by rw [HNP.out, if_neg hieq])
      clear hieq
      go_wp2
      go_loopw [9, 11, 12, 13] (fun s9 s11 s12 _ wr => ∃ (j : Nat) (v : Int) (g : Bool), off ≤ j ∧ j ≤ e ∧ s9 = .int .i64 j ∧ s11 = .int .i64 v ∧ s12 = .bool g ∧ Hid (digL T e lim (e - off) off 0 false = digL T e lim (e - j) j v g) ∧ Hid (0 ≤ v ∧ v ≤ lim * 10 + 9 ∧ (g = false → v ≤ lim)) ∧ wr = w') (fun s9 _ _ _ _ => e - (intOf s9).toNat)
      case atStart => exact ⟨off, 0, false, Nat.le_refl _, hie, by simp, rfl, rfl, hide rfl, hide (by omega), rfl⟩
      case round =>
        obtain ⟨j, v, g, hij, hje, rfl, rfl, rfl, HD, HV, hw⟩ := hrel
        subst hw
        by_cases hjlt : j < e
        · have hji : (j : Int) < (e : Int) := by omega
          have hj0 : decide ((j : Int) < 0) = false := by simp
          obtain ⟨gb, ob, ea, cb, hb⟩ := HS.out.bt j (by omega)
          cases ea
          have hjn : (j : Int) < (n : Int) := by omega
          have HST := hide (digL_step T lim v g hjlt)
          obtain ⟨bt, hbt⟩ : ∃ x, T j = x := ⟨_, rfl⟩
          rw [hbt] at cb hb HST
          clear hbt
          go_wp2_with fail
          refine (isDigit_any _ bt).mono ?_
          rintro en w' ⟨rfl, rfl⟩
          cases hdg : digitP bt
          · have HP := hide (HBAD.out (by rw [HNP.out, HD.out, HST.out, if_neg (by rw [hdg]; decide)]; rfl))
            clear hdg
            go_wp2
            exact bodyPost_ret (v := .tuple #[.int .i64 0, .int .i64 0]) (by simp [results, Tryz.results151, go_sem]) rfl HP.out
          · have hdr : 48 ≤ bt ∧ bt ≤ 57 := by unfold digitP at hdg; simp at hdg; omega
            cases g
            · have hv := HV.out
              have hw1 : IntKind.i64.wrap (v * 10) = v * 10 := by rw [IntKind.wrap_i64]; have := hv.2.2 rfl; omega
              have hw2 : IntKind.u8.wrap (bt - 48) = bt - 48 := by rw [IntKind.wrap_u8]; omega
              have hw3 : IntKind.i64.wrap (bt - 48) = bt - 48 := by rw [IntKind.wrap_i64]; omega
              have hw4 : IntKind.i64.wrap (v * 10 + (bt - 48)) = v * 10 + (bt - 48) := by rw [IntKind.wrap_i64]; have := hv.2.2 rfl; omega
              have HD2 := hide (show digL T e lim (e - off) off 0 false = digL T e lim (e - (j + 1)) (j + 1) (v * 10 + (bt - 48)) (decide (lim < v * 10 + (bt - 48))) by rw [HD.out, HST.out, if_pos hdg, if_neg (by decide)])
              have HV2 := hide (show 0 ≤ v * 10 + (bt - 48) ∧ v * 10 + (bt - 48) ≤ lim * 10 + 9 ∧ (decide (lim < v * 10 + (bt - 48)) = false → v * 10 + (bt - 48) ≤ lim) from ⟨by omega, by have := hv.2.2 rfl; omega, fun z => by simp at z; omega⟩)
              clear hdg hv HD HST HV
              go_wp2
              go_roundw
              case rel => exact ⟨j + 1, v * 10 + (bt - 48), _, by omega, by omega, by simp, rfl, rfl, HD2, HV2, by simp⟩
              case measure => simp [intOf]; omega
            · have HD2 := hide (show digL T e lim (e - off) off 0 false = digL T e lim (e - (j + 1)) (j + 1) v true by rw [HD.out, HST.out, if_pos hdg, if_pos rfl])
              clear hdg HD HST
              go_wp2
              go_roundw
              case rel => exact ⟨j + 1, v, true, by omega, by omega, by simp, rfl, rfl, HD2, HV, by simp⟩
              case measure => simp [intOf]; omega
        · obtain rfl : j = e := by omega
          have HF := hide (show R = if g = true then ((0, 1) : Int × Int) else if false = true then (if v = 0 then (0, 0) else (-v, 2)) else (v, 2) by rw [HNP.out, HD.out, digL_end T lim v g (by omega), numR_some])
          have hv := HV.out
          clear HNP HD
          cases g
          · have c1 := HS.out.c1
            have f1 := HS.out.f
            have HP := hide (HOKK.out v (by rw [HF.out, if_neg (by decide), if_neg (by decide)]))
            go_wp2
            exact bodyPost_ret (v := .tuple #[.int .i64 v, .int .i64 2]) (by simp [results, Tryz.results151, go_sem]) rfl HP.out
          · have HP := hide (HBIG.out (by rw [HF.out, if_pos rfl]))
            go_wp2
            exact bodyPost_ret (v := .tuple #[.int .i64 0, .int .i64 1]) (by simp [results, Tryz.results151, go_sem]) rfl HP.out
  · by_cases hoe2 : off < e
    · have hoi2 : decide ((off : Int) < (e : Int)) = true := by simpa using hoe2
      have ho0 : decide ((off : Int) < 0) = false := by simp
      have hon : (off : Int) < (n : Int) := by omega
      obtain ⟨gb, ob, ea, cb, hb⟩ := HS.out.bt off (by omega)
      cases ea
      cases hm : (T off == 45)
      · have hn0 : neg = false := by rw [← HNG.out, hm]; simp
        subst hn0
        obtain rfl : off = i := HII.out
        clear HII HNG
        go_upto_region 7 with fail
        by_cases hieq : off = e
        · have hib : ((off : Int) == (e : Int)) = true := by simp; omega
          have HP := hide (HBAD.out (by rw [HNP.out, if_pos hieq]))
          clear hieq
          go_wp2
          exact bodyPost_ret (v := .tuple #[.int .i64 0, .int .i64 0]) (by simp [results, Tryz.results151, go_sem]) rfl HP.out
        · have hib : ((off : Int) == (e : Int)) = false := by simp; omega
          replace HNP := hide (show R = numR false (digL T e lim (e - off) off 0 false) by rw [HNP.out, if_neg hieq])
          clear hieq
          go_wp2
          go_loopw [9, 11, 12, 13] (fun s9 s11 s12 _ wr => ∃ (j : Nat) (v : Int) (g : Bool), off ≤ j ∧ j ≤ e ∧ s9 = .int .i64 j ∧ s11 = .int .i64 v ∧ s12 = .bool g ∧ Hid (digL T e lim (e - off) off 0 false = digL T e lim (e - j) j v g) ∧ Hid (0 ≤ v ∧ v ≤ lim * 10 + 9 ∧ (g = false → v ≤ lim)) ∧ wr = w') (fun s9 _ _ _ _ => e - (intOf s9).toNat)
          case atStart => exact ⟨off, 0, false, Nat.le_refl _, hie, by simp, rfl, rfl, hide rfl, hide (by omega), rfl⟩
          case round =>
            obtain ⟨j, v, g, hij, hje, rfl, rfl, rfl, HD, HV, hw⟩ := hrel
            subst hw
            by_cases hjlt : j < e
            · have hji : (j : Int) < (e : Int) := by omega
              have hj0 : decide ((j : Int) < 0) = false := by simp
              obtain ⟨gb, ob, ea, cb, hb⟩ := HS.out.bt j (by omega)
              cases ea
              have hjn : (j : Int) < (n : Int) := by omega
              have HST := hide (digL_step T lim v g hjlt)
              obtain ⟨bt, hbt⟩ : ∃ x, T j = x := ⟨_, rfl⟩
              rw [hbt] at cb hb HST
              clear hbt
              go_wp2_with fail
              refine (isDigit_any _ bt).mono ?_
              rintro en w' ⟨rfl, rfl⟩
              cases hdg : digitP bt
              · have HP := hide (HBAD.out (by rw [HNP.out, HD.out, HST.out, if_neg (by rw [hdg]; decide)]; rfl))
                clear hdg
                go_wp2
                exact bodyPost_ret (v := .tuple #[.int .i64 0, .int .i64 0]) (by simp [results, Tryz.results151, go_sem]) rfl HP.out
              · have hdr : 48 ≤ bt ∧ bt ≤ 57 := by unfold digitP at hdg; simp at hdg; omega
                cases g
                · have hv := HV.out
                  have hw1 : IntKind.i64.wrap (v * 10) = v * 10 := by rw [IntKind.wrap_i64]; have := hv.2.2 rfl; omega
                  have hw2 : IntKind.u8.wrap (bt - 48) = bt - 48 := by rw [IntKind.wrap_u8]; omega
                  have hw3 : IntKind.i64.wrap (bt - 48) = bt - 48 := by rw [IntKind.wrap_i64]; omega
                  have hw4 : IntKind.i64.wrap (v * 10 + (bt - 48)) = v * 10 + (bt - 48) := by rw [IntKind.wrap_i64]; have := hv.2.2 rfl; omega
                  have HD2 := hide (show digL T e lim (e - off) off 0 false = digL T e lim (e - (j + 1)) (j + 1) (v * 10 + (bt - 48)) (decide (lim < v * 10 + (bt - 48))) by rw [HD.out, HST.out, if_pos hdg, if_neg (by decide)])
                  have HV2 := hide (show 0 ≤ v * 10 + (bt - 48) ∧ v * 10 + (bt - 48) ≤ lim * 10 + 9 ∧ (decide (lim < v * 10 + (bt - 48)) = false → v * 10 + (bt - 48) ≤ lim) from ⟨by omega, by have := hv.2.2 rfl; omega, fun z => by simp at z; omega⟩)
                  clear hdg hv HD HST HV
                  go_wp2
                  go_roundw
                  case rel => exact ⟨j + 1, v * 10 + (bt - 48), _, by omega, by omega, by simp, rfl, rfl, HD2, HV2, by simp⟩
                  case measure => simp [intOf]; omega
                · have HD2 := hide (show digL T e lim (e - off) off 0 false = digL T e lim (e - (j + 1)) (j + 1) v true by rw [HD.out, HST.out, if_pos hdg, if_pos rfl])
                  clear hdg HD HST
                  go_wp2
                  go_roundw
                  case rel => exact ⟨j + 1, v, true, by omega, by omega, by simp, rfl, rfl, HD2, HV, by simp⟩
                  case measure => simp [intOf]; omega
            · obtain rfl : j = e := by omega
              have HF := hide (show R = if g = true then ((0, 1) : Int × Int) else if false = true then (if v = 0 then (0, 0) else (-v, 2)) else (v, 2) by rw [HNP.out, HD.out, digL_end T lim v g (by omega), numR_some])
              have hv := HV.out
              clear HNP HD
              cases g
              · have c1 := HS.out.c1
                have f1 := HS.out.f
                have HP := hide (HOKK.out v (by rw [HF.out, if_neg (by decide), if_neg (by decide)]))
                go_wp2
                exact bodyPost_ret (v := .tuple #[.int .i64 v, .int .i64 2]) (by simp [results, Tryz.results151, go_sem]) rfl HP.out
              · have HP := hide (HBIG.out (by rw [HF.out, if_pos rfl]))
                go_wp2
                exact bodyPost_ret (v := .tuple #[.int .i64 0, .int .i64 1]) (by simp [results, Tryz.results151, go_sem]) rfl HP.out
      · have hn0 : neg = true := by rw [← HNG.out, hm]; simp [hoe2]
        subst hn0
        obtain rfl : off + 1 = i := HII.out
        have hw0 : IntKind.i64.wrap ((off : Int) + 1) = (off : Int) + 1 := by rw [IntKind.wrap_i64]; omega
        clear HII HNG
        go_upto_region 7 with fail
        by_cases hieq : (off + 1) = e
        · have hib : (((off : Int) + 1) == (e : Int)) = true := by simp; omega
          have HP := hide (HBAD.out (by rw [HNP.out, if_pos hieq]))
          clear hieq
          go_wp2
          exact bodyPost_ret (v := .tuple #[.int .i64 0, .int .i64 0]) (by simp [results, Tryz.results151, go_sem]) rfl HP.out
        · have hib : (((off : Int) + 1) == (e : Int)) = false := by simp; omega
          replace HNP := hide (show R = numR true (digL T e lim (e - (off + 1)) (off + 1) 0 false) by rw [HNP.out, if_neg hieq])
          clear hieq
          go_wp2
          go_loopw [9, 11, 12, 13] (fun s9 s11 s12 _ wr => ∃ (j : Nat) (v : Int) (g : Bool), (off + 1) ≤ j ∧ j ≤ e ∧ s9 = .int .i64 j ∧ s11 = .int .i64 v ∧ s12 = .bool g ∧ Hid (digL T e lim (e - (off + 1)) (off + 1) 0 false = digL T e lim (e - j) j v g) ∧ Hid (0 ≤ v ∧ v ≤ lim * 10 + 9 ∧ (g = false → v ≤ lim)) ∧ wr = w') (fun s9 _ _ _ _ => e - (intOf s9).toNat)
          case atStart => exact ⟨(off + 1), 0, false, Nat.le_refl _, hie, by simp, rfl, rfl, hide rfl, hide (by omega), rfl⟩
          case round =>
            obtain ⟨j, v, g, hij, hje, rfl, rfl, rfl, HD, HV, hw⟩ := hrel
            subst hw
            by_cases hjlt : j < e
            · have hji : (j : Int) < (e : Int) := by omega
              have hj0 : decide ((j : Int) < 0) = false := by simp
              obtain ⟨gb, ob, ea, cb, hb⟩ := HS.out.bt j (by omega)
              cases ea
              have hjn : (j : Int) < (n : Int) := by omega
              have HST := hide (digL_step T lim v g hjlt)
              obtain ⟨bt, hbt⟩ : ∃ x, T j = x := ⟨_, rfl⟩
              rw [hbt] at cb hb HST
              clear hbt
              go_wp2_with fail
              refine (isDigit_any _ bt).mono ?_
              rintro en w' ⟨rfl, rfl⟩
              cases hdg : digitP bt
              · have HP := hide (HBAD.out (by rw [HNP.out, HD.out, HST.out, if_neg (by rw [hdg]; decide)]; rfl))
                clear hdg
                go_wp2
                exact bodyPost_ret (v := .tuple #[.int .i64 0, .int .i64 0]) (by simp [results, Tryz.results151, go_sem]) rfl HP.out
              · have hdr : 48 ≤ bt ∧ bt ≤ 57 := by unfold digitP at hdg; simp at hdg; omega
                cases g
                · have hv := HV.out
                  have hw1 : IntKind.i64.wrap (v * 10) = v * 10 := by rw [IntKind.wrap_i64]; have := hv.2.2 rfl; omega
                  have hw2 : IntKind.u8.wrap (bt - 48) = bt - 48 := by rw [IntKind.wrap_u8]; omega
                  have hw3 : IntKind.i64.wrap (bt - 48) = bt - 48 := by rw [IntKind.wrap_i64]; omega
                  have hw4 : IntKind.i64.wrap (v * 10 + (bt - 48)) = v * 10 + (bt - 48) := by rw [IntKind.wrap_i64]; have := hv.2.2 rfl; omega
                  have HD2 := hide (show digL T e lim (e - (off + 1)) (off + 1) 0 false = digL T e lim (e - (j + 1)) (j + 1) (v * 10 + (bt - 48)) (decide (lim < v * 10 + (bt - 48))) by rw [HD.out, HST.out, if_pos hdg, if_neg (by decide)])
                  have HV2 := hide (show 0 ≤ v * 10 + (bt - 48) ∧ v * 10 + (bt - 48) ≤ lim * 10 + 9 ∧ (decide (lim < v * 10 + (bt - 48)) = false → v * 10 + (bt - 48) ≤ lim) from ⟨by omega, by have := hv.2.2 rfl; omega, fun z => by simp at z; omega⟩)
                  clear hdg hv HD HST HV
                  go_wp2
                  go_roundw
                  case rel => exact ⟨j + 1, v * 10 + (bt - 48), _, by omega, by omega, by simp, rfl, rfl, HD2, HV2, by simp⟩
                  case measure => simp [intOf]; omega
                · have HD2 := hide (show digL T e lim (e - (off + 1)) (off + 1) 0 false = digL T e lim (e - (j + 1)) (j + 1) v true by rw [HD.out, HST.out, if_pos hdg, if_pos rfl])
                  clear hdg HD HST
                  go_wp2
                  go_roundw
                  case rel => exact ⟨j + 1, v, true, by omega, by omega, by simp, rfl, rfl, HD2, HV, by simp⟩
                  case measure => simp [intOf]; omega
            · obtain rfl : j = e := by omega
              have HF := hide (show R = if g = true then ((0, 1) : Int × Int) else if true = true then (if v = 0 then (0, 0) else (-v, 2)) else (v, 2) by rw [HNP.out, HD.out, digL_end T lim v g (by omega), numR_some])
              have hv := HV.out
              clear HNP HD
              cases g
              · have c1 := HS.out.c1
                have f1 := HS.out.f
                by_cases hv0 : v = 0
                · have hvb : (v == 0) = true := by simpa using hv0
                  have HP := hide (HBAD.out (by rw [HF.out, if_neg (by decide), if_pos rfl, if_pos hv0]))
                  clear hv0
                  go_wp2
                  exact bodyPost_ret (v := .tuple #[.int .i64 0, .int .i64 0]) (by simp [results, Tryz.results151, go_sem]) rfl HP.out
                · have hvb : (v == 0) = false := by simpa using hv0
                  have hwn : IntKind.i64.wrap (-v) = -v := by rw [IntKind.wrap_i64]; omega
                  have HP := hide (HOKK.out (-v) (by rw [HF.out, if_neg (by decide), if_pos rfl, if_neg hv0]))
                  clear hv0
                  go_wp2
                  exact bodyPost_ret (v := .tuple #[.int .i64 (-v), .int .i64 2]) (by simp [results, Tryz.results151, go_sem]) rfl HP.out
              · have HP := hide (HBIG.out (by rw [HF.out, if_pos rfl]))
                go_wp2
                exact bodyPost_ret (v := .tuple #[.int .i64 0, .int .i64 1]) (by simp [results, Tryz.results151, go_sem]) rfl HP.out
    · have hoi2 : decide ((off : Int) < (e : Int)) = false := by simpa using hoe2
      have hn0 : neg = false := by rw [← HNG.out]; simp [hoe2]
      subst hn0
      obtain rfl : off = i := HII.out
      clear HII HNG
      go_upto_region 7 with fail
      have hieq : off = e := by omega
      have hib : ((off : Int) == (e : Int)) = true := by simp; omega
      have HP := hide (HBAD.out (by rw [HNP.out, if_pos hieq]))
      clear hieq
      go_wp2
      exact bodyPost_ret (v := .tuple #[.int .i64 0, .int .i64 0]) (by simp [results, Tryz.results151, go_sem]) rfl HP.out
end Go.Proofs.Qxb6500773aGreat
