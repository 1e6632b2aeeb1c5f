import Derived.Test.Qxb6500778aM2
namespace Go.Proofs.Qxb6500778a
open Go.RowKit

/-- A word of the model: its text and its place. -/
structure Wd where
  t : List Int
  q : Int
def Wd.vals (x : Wd) : List Value := [.string (strOfNums x.t), .int .i64 x.q]
def flatW (L : List Wd) : List Value := L.flatMap Wd.vals
theorem wd_len (x : Wd) : x.vals.length = 2 := rfl
/-- The words from offset o on. -/
def wds (s : List Int) : Nat → Nat → List Wd
  | 0, _ => []
  | f + 1, o => match s[o + skS false (s.drop o)]? with
    | none => []
    | some c => if wbP c = true then ⟨(s.drop (o + skS false (s.drop o))).take (wlW (s.drop (o + skS false (s.drop o)))), (o + skS false (s.drop o) : Nat)⟩ :: wds s f (o + skS false (s.drop o) + wlW (s.drop (o + skS false (s.drop o))))
      else ⟨[c], (o + skS false (s.drop o) : Nat)⟩ :: wds s f (o + skS false (s.drop o) + 1)
def wdsP (s : List Int) : List Wd := wds s (s.length + 1) 0 ++ [⟨[], s.length⟩]
theorem wl_pos {s : List Int} {q : Nat} {c : Int} (h : s[q]? = some c) (hw : wbP c = true) : 1 ≤ wlW (s.drop q) := by
  rw [drop_cons h, wlW, if_pos hw]; omega
theorem wds_fuel (s : List Int) : ∀ (f g o : Nat), s.length < f + o → s.length < g + o → wds s f o = wds s g o
  | 0, 0, _, _, _ => rfl
  | 0, g + 1, o, h1, _ => by
    rw [wds, wds]
    have : s[o + skS false (s.drop o)]? = none := List.getElem?_eq_none (by omega)
    rw [this]
  | f + 1, 0, o, _, h2 => by
    rw [wds, wds]
    have : s[o + skS false (s.drop o)]? = none := List.getElem?_eq_none (by omega)
    rw [this]
  | f + 1, g + 1, o, h1, h2 => by
    rw [wds, wds]
    cases hc : s[o + skS false (s.drop o)]? with
    | none => rfl
    | some c =>
      simp only []
      split
      · rename_i hw
        have := wl_pos hc hw
        rw [wds_fuel s f g _ (by omega) (by omega)]
      · rw [wds_fuel s f g _ (by omega) (by omega)]
theorem sk_here {s : List Int} {i : Nat} {c : Int} (h : s[i]? = some c) (h1 : spP c = false) (h2 : c ≠ 35) : skS false (s.drop i) = 0 := by
  rw [drop_cons h, skS, if_neg h2, if_neg (by rw [h1]; decide)]
/-- blanks fall away -/
theorem wds_sp {s : List Int} {i : Nat} {c : Int} (f : Nat) (h : s[i]? = some c) (h1 : spP c = true) (h2 : c ≠ 35) : wds s f i = wds s f (i + 1) := by
  have e : i + skS false (s.drop i) = i + 1 + skS false (s.drop (i + 1)) := by rw [drop_cons h, skS, if_neg h2, if_pos h1]; omega
  cases f with
  | zero => rfl
  | succ f => rw [wds, wds, e]
/-- where skipping ends is all that counts -/
theorem wds_at {s : List Int} {i j : Nat} (f : Nat) (e : i + skS false (s.drop i) = j + skS false (s.drop j)) : wds s f i = wds s f j := by
  cases f with
  | zero => rfl
  | succ f => rw [wds, wds, e]
theorem wds_end {s : List Int} {i : Nat} (f : Nat) (h : s.length ≤ i) : wds s f i = [] := by
  cases f with
  | zero => rfl
  | succ f =>
    rw [wds]
    have : s[i + skS false (s.drop i)]? = none := List.getElem?_eq_none (by omega)
    rw [this]
theorem wds_word {s : List Int} {i : Nat} {c : Int} (h : s[i]? = some c) (hw : wbP c = true) : wds s (s.length + 1) i = ⟨(s.drop i).take (wlW (s.drop i)), (i : Nat)⟩ :: wds s (s.length + 1) (i + wlW (s.drop i)) := by
  obtain ⟨n1, n2, _⟩ := wb_not hw
  have e := sk_here h n1 n2
  have hi := (List.getElem?_eq_some_iff.1 h).1
  have := wl_pos h hw
  rw [wds, e, Nat.add_zero, h]
  simp only []
  rw [if_pos hw, wds_fuel s s.length (s.length + 1) _ (by omega) (by omega)]
theorem wds_mark {s : List Int} {i : Nat} {c : Int} (h : s[i]? = some c) (h1 : spP c = false) (h2 : c ≠ 35) (hw : wbP c = false) : wds s (s.length + 1) i = ⟨[c], (i : Nat)⟩ :: wds s (s.length + 1) (i + 1) := by
  have e := sk_here h h1 h2
  have hi := (List.getElem?_eq_some_iff.1 h).1
  rw [wds, e, Nat.add_zero, h]
  simp only []
  rw [if_neg (by rw [hw]; decide), wds_fuel s s.length (s.length + 1) _ (by omega) (by omega)]
theorem flatW_snoc (L : List Wd) (x : Wd) : flatW (L ++ [x]) = flatW L ++ x.vals := by unfold flatW; simp
theorem wd_one (x : Wd) : ∀ u ∈ x.vals, u.oneCell' = true := fun u hu => by
  simp only [Wd.vals, List.mem_cons, List.not_mem_nil, or_false] at hu
  rcases hu with rfl | rfl <;> rfl
theorem sp_def (c : Int) : spP c = ((c == 32) || ((c == 9) || ((c == 10) || (c == 13)))) := rfl
theorem app_ex {w wr w6 : World} {o : Obj} {B e s n : Nat} {v : Value} {xs : List Value} (hE : Ex (fun _ => False) w wr) (hO : wr.ownsRow B e s v n xs) (hB : w.heap.size = B) (hg : (wr.alloc o).grownBy w6 v.ownBlock) : Ex (fun _ => False) w w6 :=
  (hE.alloc o).trans2 (Ex.ofGrown (S := fun k => v.ownBlock = some k) hg (fun k hk => hk.symm)) (fun k hk => .inr (by have := (hO.lt k hk).1; omega))
set_option linter.unusedSimpArgs false in
set_option maxRecDepth 100000 in
set_option maxHeartbeats 8000000 in
/-- configm.words -/
theorem words_any (w : World) (a : Option Addr) (cp : Nat) (s : List Int) (hl : s.length ≤ 65536) (hcp : s.length ≤ cp) (hsrc : SrcAt w a s) :
    Calls Try.prog 41 #[.slice a s.length cp] w fun e w' => ∃ v, e = .returned v ∧ Ex (fun _ => False) w w' ∧ w'.ownsRow w.heap.size 107 2 v (wdsP s).length (flatW (wdsP s)) := by
  have HSRC := hide hsrc
  obtain ⟨n, hn⟩ : ∃ n, s.length = n := ⟨_, rfl⟩
  have HNL := hide hn
  rw [hn] at hl hcp ⊢
  clear hsrc hn
  obtain ⟨i0, hi, hz0, hz1, hz2⟩ : ∃ i0, Try.prog.info? 107 = some i0 ∧ i0.zero = some (.agg #[.string ⟨#[]⟩, .int .i64 0]) ∧ i0.size = 2 ∧ i0.bytes = 24 := ⟨_, rfl, rfl, rfl, rfl⟩
  have HI := hide (And.intro hi (And.intro hz0 (And.intro hz1 hz2)))
  clear hi hz0 hz1 hz2
  obtain ⟨B, hB⟩ : ∃ B, w.heap.size = B := ⟨_, rfl⟩
  have HB := hide hB
  rw [hB]
  clear hB
  go_enter Try.func41, Try.ntmps41
  go_wp2_with fail
  go_loopw [3, 4] (fun s3 s4 wr => ∃ (i : Nat) (va : Option Addr) (vc : Nat) (L : List Wd), s4 = .int .i64 i ∧ s3 = .slice va L.length vc ∧ i ≤ n ∧ Hid (Ex (fun _ => False) w wr) ∧ Hid (wr.ownsRow B 107 2 (.slice va L.length vc) L.length (flatW L)) ∧ Hid (L ++ wds s (s.length + 1) i = wds s (s.length + 1) 0) ∧ L.length ≤ i) (fun _ s4 _ => n - (intOf s4).toNat)
  case atStart => exact ⟨0, none, 0, [], rfl, rfl, Nat.zero_le _, Ex.refl _ _, World.ownsRow_nil _ _ _ _, rfl, Nat.le_refl _⟩
  case round =>
    obtain ⟨i, va, vc, L, rfl, rfl, hin, HE, HO, HL, hLi⟩ := hrel
    by_cases hlt : i < n
    · have d1 : decide ((i : Int) < (n : Int)) = true := decide_eq_true (by omega)
      have hii : (i : Int) < (n : Int) := by omega
      obtain ⟨c, hc⟩ : ∃ c, s[i]? = some c := ⟨_, List.getElem?_eq_getElem (by rw [HNL.out]; exact hlt)⟩
      obtain ⟨g, off, ha, cx0⟩ := HSRC.out i c hc
      subst ha
      have cx := HE.out.cell (fun e => e) cx0
      have HC := hide hc
      clear cx0 hc
      go_upto_region 5 with fail
      go_cut [28] (fun s28 wx => s28 = .bool (spP c) ∧ wx = wr)
      case first =>
        obtain ⟨b1, e1⟩ : ∃ b, (c == 32) = b := ⟨_, rfl⟩
        obtain ⟨b2, e2⟩ : ∃ b, (c == 9) = b := ⟨_, rfl⟩
        obtain ⟨b3, e3⟩ : ∃ b, (c == 10) = b := ⟨_, rfl⟩
        obtain ⟨b4, e4⟩ : ∃ b, (c == 13) = b := ⟨_, rfl⟩
        have e5 : spP c = (b1 || (b2 || (b3 || b4))) := by rw [sp_def, e1, e2, e3, e4]
        have HS5 := hide e5
        clear e5
        cases b1 <;> cases b2 <;> cases b3 <;> cases b4 <;> (go_wp2; go_meet; exact ⟨by rw [HS5.out]; rfl, rfl⟩)
      obtain ⟨rfl, rfl⟩ := hcut
      obtain ⟨bs, hbs⟩ : ∃ b, spP c = b := ⟨_, rfl⟩
      rw [hbs]
      have HBS := hide hbs
      clear hbs
      cases bs
      · by_cases h35 : c = 35
        · have d35 : (c == 35) = true := by simpa using h35
          have HT : Hid (i + skS true (s.drop i) = i + skS false (s.drop i)) := by show _ = _; rw [drop_cons HC.out, skS_com _ h35]
          have HC35 := hide h35
          clear h35
          go_wp2_with fail
          go_loopw [4] (fun s4 wq => ∃ (k : Nat), s4 = .int .i64 k ∧ i ≤ k ∧ k ≤ n ∧ Hid (k + skS true (s.drop k) = i + skS false (s.drop i)) ∧ Hid (i < k ∨ k = i) ∧ wq = wc) (fun s4 _ => n - (intOf s4).toNat)
          case atStart => exact ⟨i, rfl, Nat.le_refl _, hin, HT, .inr rfl, rfl⟩
          case round =>
            obtain ⟨k, rfl, hik, hkn, HK, HKI, rfl⟩ := hrel
            by_cases hlk : k < n
            · have dk : decide ((k : Int) < (n : Int)) = true := decide_eq_true (by omega)
              have hki : (k : Int) < (n : Int) := by omega
              obtain ⟨y, hy⟩ : ∃ y, s[k]? = some y := ⟨_, List.getElem?_eq_getElem (by rw [HNL.out]; exact hlk)⟩
              obtain ⟨g', off', ha', cy0⟩ := HSRC.out k y hy
              injection ha' with ha'
              injection ha' with ha1 ha2
              subst ha1 ha2
              have cy := HE.out.cell (fun e => e) cy0
              have HY := hide hy
              clear cy0 hy
              by_cases h10 : y = 10
              · have d10 : (y == 10) = true := by simpa using h10
                have HD : Hid (wds s (s.length + 1) i = wds s (s.length + 1) k) := wds_at _ (by rw [← HK.out, drop_cons HY.out, skS_nl _ h10])
                have hne : i < k := by
                  rcases HKI.out with z | z
                  · exact z
                  · subst z
                    have := HC.out.symm.trans HY.out
                    injection this with this
                    have := HC35.out
                    omega
                clear h10
                go_wp2
                go_roundw
                case rel => exact ⟨k, va, vc, L, by go_num, rfl, by omega, HE, HO, (by show _ = _; rw [← HD.out]; exact HL.out), by omega⟩
                case measure => simp [intOf]; omega
              · have d10 : (y == 10) = false := by simpa using h10
                have HK1 : Hid (k + 1 + skS true (s.drop (k + 1)) = i + skS false (s.drop i)) := by
                  have := HK.out
                  rw [drop_cons HY.out, skS, if_neg h10] at this
                  show _ = _
                  omega
                clear h10
                go_wp2
                go_roundw
                case rel => exact ⟨k + 1, by go_num, by omega, by omega, HK1, .inl (by omega), trivial⟩
                case measure => simp [intOf]; omega
            · obtain rfl : k = n := by omega
              have dk : decide ((k : Int) < (k : Int)) = false := decide_eq_false (by omega)
              have HD : Hid (wds s (s.length + 1) i = wds s (s.length + 1) k) := wds_at _ (by rw [← HK.out, List.drop_of_length_le (by rw [HNL.out]; exact Nat.le_refl _)]; rfl)
              go_wp2
              go_roundw
              case rel => exact ⟨k, va, vc, L, by go_num, rfl, by omega, HE, HO, (by show _ = _; rw [← HD.out]; exact HL.out), by omega⟩
              case measure => simp [intOf]; omega
        · have d35 : (c == 35) = false := by simpa using h35
          have HN35 := hide h35
          clear h35
          obtain ⟨bw, hbw⟩ : ∃ b, wbP c = b := ⟨_, rfl⟩
          have HWB := hide (wordByte_any wc c)
          rw [hbw] at HWB
          have HBW := hide hbw
          clear hbw
          cases bw
          · -- a mark
            have hcv := fun V (hV : Ex (fun _ => False) wc V) => run_convert_bytes_arg (P := Try.prog) V 46 5 Try.underlying46 Try.underlying5 g (off + i) 1 (cp - i) [c] rfl (fun j hj => by
              obtain rfl : j = 0 := by omega
              rw [Nat.add_zero]
              exact hV.cell (fun e => e) cx) 9 Try.underlying9
            have hcv0 := hcv wc (Ex.refl _ _)
            have hcpi : ((i : Int) + 1) ≤ (cp : Int) := by omega
            go_wp2_with (first | (go_at_call 65; refine (HWB.out).mono ?_; rintro e wq ⟨rfl, rfl⟩; simp only []) | (at_builtin; refine wpList_append_own _ rfl _ _ 104 rfl B 107 i0 _ 2 24 Try.underlying104 HI.out.1 HI.out.2.1 HI.out.2.2.1 HI.out.2.2.2 rfl (by decide) (.slice va L.length vc) L.length (flatW L) rfl (HO.out.alloc _) ⟨wc.heap.size, 0, none⟩ 1 1 (Wd.vals ⟨[c], (i : Nat)⟩) rfl rfl (fun j u hj => new_cells wc (Wd.vals ⟨[c], (i : Nat)⟩) 107 j u hj) (wd_one _) (by unfold maxLen; omega) (by omega) (by have := HE.out.size; have := HB.out; simp; omega) ?_; intro v6 w6 hown6 hgrow6 _))
            have hex6 := app_ex HE.out HO.out HB.out hgrow6
            have HE6 := hide hex6
            obtain ⟨va', vc', rfl⟩ := own_len hown6
            have HL6 : Hid ((L ++ [(⟨[c], (i : Nat)⟩ : Wd)]) ++ wds s (s.length + 1) (i + 1) = wds s (s.length + 1) 0) := by
              show _ = _
              rw [← HL.out, wds_mark HC.out HBS.out HN35.out HBW.out, List.append_assoc]
              rfl
            have HO6 : Hid (w6.ownsRow B 107 2 (.slice va' (L ++ [(⟨[c], (i : Nat)⟩ : Wd)]).length vc') (L ++ [(⟨[c], (i : Nat)⟩ : Wd)]).length (flatW (L ++ [(⟨[c], (i : Nat)⟩ : Wd)]))) := by
              show World.ownsRow _ _ _ _ _ _ _
              rw [flatW_snoc, List.length_append]
              exact hown6
            have hLl : (L ++ [(⟨[c], (i : Nat)⟩ : Wd)]).length = L.length + 1 := by rw [List.length_append]; rfl
            generalize L ++ [(⟨[c], (i : Nat)⟩ : Wd)] = L' at *
            rw [← hLl]
            clear hex6 hown6 hgrow6 hcv hcv0 cx
            go_wp2
            go_roundw
            case rel => exact ⟨i + 1, va', vc', L', by go_num, rfl, by omega, HE6, HO6, HL6, by omega⟩
            case measure => simp [intOf]; omega
          · -- a word
            have hwl := wl_pos HC.out HBW.out
            go_wp2_with (go_at_call 65; refine (HWB.out).mono ?_; rintro e wq ⟨rfl, rfl⟩; simp only [])
            go_loopw [4] (fun s4 wq => ∃ (k : Nat), s4 = .int .i64 k ∧ i ≤ k ∧ k ≤ n ∧ Hid (k + wlW (s.drop k) = i + wlW (s.drop i)) ∧ wq = wc) (fun s4 _ => n - (intOf s4).toNat)
            case atStart => exact ⟨i, rfl, Nat.le_refl _, hin, hide rfl, rfl⟩
            case round =>
              obtain ⟨k, rfl, hik, hkn, HK, rfl⟩ := hrel
              by_cases hgo : k < i + wlW (s.drop i)
              · have hlk : k < n := by
                  have h1 := wlW_le (s.drop i)
                  rw [List.length_drop, HNL.out] at h1
                  omega
                have dk : decide ((k : Int) < (n : Int)) = true := decide_eq_true (by omega)
                have hki : (k : Int) < (n : Int) := by omega
                obtain ⟨y, hy⟩ : ∃ y, s[k]? = some y := ⟨_, List.getElem?_eq_getElem (by rw [HNL.out]; exact hlk)⟩
                obtain ⟨g', off', ha', cy0⟩ := HSRC.out k y hy
                injection ha' with ha'
                injection ha' with ha1 ha2
                subst ha1 ha2
                have cy := HE.out.cell (fun e => e) cy0
                have hwy : wbP y = true := by
                  cases hb : wbP y with
                  | true => rfl
                  | false =>
                    have := HK.out
                    rw [drop_cons hy, wlW, if_neg (by rw [hb]; decide)] at this
                    omega
                have HK1 : Hid (k + 1 + wlW (s.drop (k + 1)) = i + wlW (s.drop i)) := by
                  have := HK.out
                  rw [drop_cons hy, wlW, if_pos hwy] at this
                  show _ = _
                  omega
                have HWY := hide (wordByte_any wr y)
                rw [hwy] at HWY
                clear cy0 hy hwy
                go_wp2_with (go_at_call 65; refine (HWY.out).mono ?_; rintro e wq2 ⟨rfl, rfl⟩; simp only [])
                go_roundw
                case rel => exact ⟨k + 1, by go_num, by omega, by omega, HK1, trivial⟩
                case measure => simp [intOf]; omega
              · have HD : Hid (k = i + wlW (s.drop i)) := by
                  have h1 := HK.out
                  show _ = _
                  omega
                have HXT : Hid (((s.drop i).take (k - i)).length = k - i) := by
                  show _ = _
                  rw [List.length_take, List.length_drop, HNL.out]
                  omega
                have hcv0 := run_convert_bytes_arg (P := Try.prog) wr 46 5 Try.underlying46 Try.underlying5 g (off + i) (k - i) (cp - i) ((s.drop i).take (k - i)) HXT.out (fun j hj => by
                  obtain ⟨y, hy⟩ : ∃ y, s[i + j]? = some y := ⟨_, List.getElem?_eq_getElem (by rw [HNL.out]; omega)⟩
                  obtain ⟨g', off', ha', cy0⟩ := HSRC.out (i + j) y hy
                  injection ha' with ha'
                  injection ha' with ha1 ha2
                  subst ha1 ha2
                  rw [Nat.add_assoc, HE.out.cell (fun e => e) cy0, List.getD_eq_getElem?_getD, List.getElem?_take, if_pos hj, List.getElem?_drop, hy, Option.getD_some]) 9 Try.underlying9
                have hcpi : (k : Int) ≤ (cp : Int) := by omega
                have hiki : (i : Int) ≤ (k : Int) := by omega
                have HXD : Hid (wds s (s.length + 1) i = ⟨(s.drop i).take (k - i), (i : Nat)⟩ :: wds s (s.length + 1) k) := by
                  show _ = _
                  rw [wds_word HC.out HBW.out, HD.out, Nat.add_sub_cancel_left]
                have hik2 : i < k := by have := HD.out; omega
                generalize (s.drop i).take (k - i) = X at *
                by_cases hlk : k < n
                · have dk : decide ((k : Int) < (n : Int)) = true := decide_eq_true (by omega)
                  have hki : (k : Int) < (n : Int) := by omega
                  obtain ⟨y, hy⟩ : ∃ y, s[k]? = some y := ⟨_, List.getElem?_eq_getElem (by rw [HNL.out]; exact hlk)⟩
                  obtain ⟨g', off', ha', cy0⟩ := HSRC.out k y hy
                  injection ha' with ha'
                  injection ha' with ha1 ha2
                  subst ha1 ha2
                  have cy := HE.out.cell (fun e => e) cy0
                  have hwy : wbP y = false := by
                    cases hb : wbP y with
                    | false => rfl
                    | true =>
                      have := HK.out
                      rw [drop_cons hy, wlW, if_pos hb] at this
                      have := HD.out
                      omega
                  have HWY := hide (wordByte_any wr y)
                  rw [hwy] at HWY
                  clear cy0 hy hwy
                  go_wp2_with (first | (go_at_call 65; refine (HWY.out).mono ?_; rintro e wq2 ⟨rfl, rfl⟩; simp only []) | (at_builtin; refine wpList_append_own _ rfl _ _ 104 rfl B 107 i0 _ 2 24 Try.underlying104 HI.out.1 HI.out.2.1 HI.out.2.2.1 HI.out.2.2.2 rfl (by decide) (.slice va L.length vc) L.length (flatW L) rfl (HO.out.alloc _) ⟨wr.heap.size, 0, none⟩ 1 1 (Wd.vals ⟨X, (i : Nat)⟩) rfl rfl (fun j u hj => new_cells wr (Wd.vals ⟨X, (i : Nat)⟩) 107 j u hj) (wd_one _) (by unfold maxLen; omega) (by omega) (by have := HE.out.size; have := HB.out; simp; omega) ?_; intro v6 w6 hown6 hgrow6 _))
                  have hex6 := app_ex HE.out HO.out HB.out hgrow6
                  have HE6 := hide hex6
                  obtain ⟨va', vc', rfl⟩ := own_len hown6
                  have HL6 : Hid ((L ++ [(⟨X, (i : Nat)⟩ : Wd)]) ++ wds s (s.length + 1) k = wds s (s.length + 1) 0) := by
                    show _ = _
                    rw [← HL.out, HXD.out, List.append_assoc]
                    rfl
                  have HO6 : Hid (w6.ownsRow B 107 2 (.slice va' (L ++ [(⟨X, (i : Nat)⟩ : Wd)]).length vc') (L ++ [(⟨X, (i : Nat)⟩ : Wd)]).length (flatW (L ++ [(⟨X, (i : Nat)⟩ : Wd)]))) := by
                    show World.ownsRow _ _ _ _ _ _ _
                    rw [flatW_snoc, List.length_append]
                    exact hown6
                  have hLl : (L ++ [(⟨X, (i : Nat)⟩ : Wd)]).length = L.length + 1 := by rw [List.length_append]; rfl
                  generalize L ++ [(⟨X, (i : Nat)⟩ : Wd)] = L' at *
                  rw [← hLl]
                  clear hex6 hown6 hgrow6 hcv0 cx
                  go_wp2
                  go_roundw
                  case rel => exact ⟨k, va', vc', L', by go_num, rfl, by omega, HE6, HO6, HL6, by omega⟩
                  case measure => simp [intOf]; omega
                · obtain rfl : k = n := by omega
                  have dk : decide ((k : Int) < (k : Int)) = false := decide_eq_false (by omega)
                  go_wp2_with (first | (at_builtin; refine wpList_append_own _ rfl _ _ 104 rfl B 107 i0 _ 2 24 Try.underlying104 HI.out.1 HI.out.2.1 HI.out.2.2.1 HI.out.2.2.2 rfl (by decide) (.slice va L.length vc) L.length (flatW L) rfl (HO.out.alloc _) ⟨wr.heap.size, 0, none⟩ 1 1 (Wd.vals ⟨X, (i : Nat)⟩) rfl rfl (fun j u hj => new_cells wr (Wd.vals ⟨X, (i : Nat)⟩) 107 j u hj) (wd_one _) (by unfold maxLen; omega) (by omega) (by have := HE.out.size; have := HB.out; simp; omega) ?_; intro v6 w6 hown6 hgrow6 _))
                  have hex6 := app_ex HE.out HO.out HB.out hgrow6
                  have HE6 := hide hex6
                  obtain ⟨va', vc', rfl⟩ := own_len hown6
                  have HL6 : Hid ((L ++ [(⟨X, (i : Nat)⟩ : Wd)]) ++ wds s (s.length + 1) k = wds s (s.length + 1) 0) := by
                    show _ = _
                    rw [← HL.out, HXD.out, List.append_assoc]
                    rfl
                  have HO6 : Hid (w6.ownsRow B 107 2 (.slice va' (L ++ [(⟨X, (i : Nat)⟩ : Wd)]).length vc') (L ++ [(⟨X, (i : Nat)⟩ : Wd)]).length (flatW (L ++ [(⟨X, (i : Nat)⟩ : Wd)]))) := by
                    show World.ownsRow _ _ _ _ _ _ _
                    rw [flatW_snoc, List.length_append]
                    exact hown6
                  have hLl : (L ++ [(⟨X, (i : Nat)⟩ : Wd)]).length = L.length + 1 := by rw [List.length_append]; rfl
                  generalize L ++ [(⟨X, (i : Nat)⟩ : Wd)] = L' at *
                  rw [← hLl]
                  clear hex6 hown6 hgrow6 hcv0 cx
                  go_wp2
                  go_roundw
                  case rel => exact ⟨k, va', vc', L', by go_num, rfl, by omega, HE6, HO6, HL6, by omega⟩
                  case measure => simp [intOf]; omega
      · -- a blank
        have h35 : c ≠ 35 := fun e => by subst e; cases HBS.out
        have HD : Hid (wds s (s.length + 1) i = wds s (s.length + 1) (i + 1)) := wds_sp _ HC.out HBS.out h35
        clear h35
        go_wp2
        go_roundw
        case rel => exact ⟨i + 1, va, vc, L, by go_num, rfl, by omega, HE, HO, (by show _ = _; rw [← HD.out]; exact HL.out), by omega⟩
        case measure => simp [intOf]; omega
    · obtain rfl : i = n := by omega
      have d1 : decide ((i : Int) < (i : Int)) = false := decide_eq_false (by omega)
      have HLE : Hid (wdsP s = L ++ [(⟨[], (i : Nat)⟩ : Wd)]) := by
        show wdsP s = _
        unfold wdsP
        rw [← HL.out, wds_end _ (by rw [HNL.out]; exact Nat.le_refl _), List.append_nil, HNL.out]
      go_wp2_with (first | (at_builtin; refine wpList_append_own _ rfl _ _ 104 rfl B 107 i0 _ 2 24 Try.underlying104 HI.out.1 HI.out.2.1 HI.out.2.2.1 HI.out.2.2.2 rfl (by decide) (.slice va L.length vc) L.length (flatW L) rfl (HO.out.alloc _) ⟨wr.heap.size, 0, none⟩ 1 1 (Wd.vals ⟨[], (i : Nat)⟩) rfl rfl (fun j u hj => new_cells wr (Wd.vals ⟨[], (i : Nat)⟩) 107 j u hj) (wd_one _) (by unfold maxLen; omega) (by omega) (by have := HE.out.size; have := HB.out; simp; omega) ?_; intro v6 w6 hown6 hgrow6 _))
      have hex6 := app_ex HE.out HO.out HB.out hgrow6
      have HE6 := hide hex6
      have HO6 : Hid (w6.ownsRow B 107 2 v6 (wdsP s).length (flatW (wdsP s))) := by
        show World.ownsRow _ _ _ _ _ _ _
        rw [HLE.out, flatW_snoc, List.length_append]
        exact hown6
      clear hex6 hown6 hgrow6
      go_wp2
      go_ret
      exact ⟨v6, rfl, HE6.out, HO6.out⟩
end Go.Proofs.Qxb6500778a
