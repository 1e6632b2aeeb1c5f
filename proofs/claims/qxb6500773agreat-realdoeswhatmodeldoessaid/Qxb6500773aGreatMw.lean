import Derived.Test.Qxb6500773aGreatMv
namespace Go.Proofs.Qxb6500773aGreat
open Go.RowKit

theorem Tryz.info181 : (Tryz.prog.info? 181).map (fun i => (i.zero, i.size, i.bytes)) = some (some (.agg #[.slice none 0 0, .int .i64 0, .int .i64 0]), 3, 40) := by kernel_rfl
structure Tk where
  t : List Int
  ln : Int
  col : Int
def e3 (x : Tk) (v : Value) : List Value := [v, .int .i64 x.ln, .int .i64 x.col]
def t3 (x : Tk) : List Int := x.t
/-- the tokens of a line of k bytes -/
def tkA (ln : Int) (k : Nat) : List Tk → List Int → Nat → List Int → List Tk
  | out, _, _, [] => out
  | out, cur, i, b :: r => if spM b = true then (if 0 < cur.length then tkA ln k (out ++ [⟨cur, ln, (i : Int) - 1 - cur.length + 2⟩]) [] (i + 1) r else tkA ln k out cur (i + 1) r) else (if i + 1 = k then tkA ln k (out ++ [⟨cur ++ [b], ln, (i : Int) - ((cur.length : Int) + 1) + 2⟩]) [] (i + 1) r else tkA ln k out (cur ++ [b]) (i + 1) r)
/-- the tokens of lines -/
def tkL : List Tk → Nat → List (List Int) → List Tk
  | out, _, [] => out
  | out, n, Y :: r => if Y.head? = some 99 then tkL out (n + 1) r else tkL (tkA ((n : Int) + 1) Y.length out [] 0 Y) (n + 1) r
def tkP (X : List Int) : List Tk := tkL [] 0 (lnP X)
theorem tkA_ge (ln : Int) (k : Nat) : ∀ (Y : List Int) (out : List Tk) (cur : List Int) (i : Nat), out.length ≤ (tkA ln k out cur i Y).length
  | [], out, cur, i => Nat.le_refl _
  | b :: r, out, cur, i => by
    unfold tkA
    split
    · split
      · exact Nat.le_trans (by simp) (tkA_ge ln k r _ _ _)
      · exact tkA_ge ln k r _ _ _
    · split
      · exact Nat.le_trans (by simp) (tkA_ge ln k r _ _ _)
      · exact tkA_ge ln k r _ _ _
theorem tkL_ge : ∀ (L : List (List Int)) (out : List Tk) (n : Nat), out.length ≤ (tkL out n L).length
  | [], out, n => Nat.le_refl _
  | Y :: r, out, n => by
    unfold tkL
    split
    · exact tkL_ge r _ _
    · exact Nat.le_trans (tkA_ge _ _ Y out [] 0) (tkL_ge r _ _)
theorem tkA_le (ln : Int) (k : Nat) : ∀ (Y : List Int) (out : List Tk) (cur : List Int) (i : Nat), (tkA ln k out cur i Y).length ≤ out.length + cur.length + Y.length
  | [], out, cur, i => by unfold tkA; omega
  | b :: r, out, cur, i => by
    unfold tkA
    split
    · split
      · have := tkA_le ln k r (out ++ [⟨cur, ln, (i : Int) - 1 - cur.length + 2⟩]) [] (i + 1)
        simp at this ⊢
        omega
      · have := tkA_le ln k r out cur (i + 1)
        simp at this ⊢
        omega
    · split
      · have := tkA_le ln k r (out ++ [⟨cur ++ [b], ln, (i : Int) - ((cur.length : Int) + 1) + 2⟩]) [] (i + 1)
        simp at this ⊢
        omega
      · have := tkA_le ln k r out (cur ++ [b]) (i + 1)
        simp at this ⊢
        omega
def totL : List (List Int) → Nat
  | [] => 0
  | Y :: r => Y.length + totL r
theorem totL_app : ∀ (L M : List (List Int)), totL (L ++ M) = totL L + totL M
  | [], M => by simp [totL]
  | Y :: r, M => by simp [totL, totL_app r M]; omega
theorem tkL_le : ∀ (L : List (List Int)) (out : List Tk) (n : Nat), (tkL out n L).length ≤ out.length + totL L
  | [], out, n => by unfold tkL totL; omega
  | Y :: r, out, n => by
    unfold tkL totL
    split
    · have := tkL_le r out (n + 1); omega
    · have := tkL_le r (tkA ((n : Int) + 1) Y.length out [] 0 Y) (n + 1)
      have := tkA_le ((n : Int) + 1) Y.length Y out [] 0
      simp at this
      omega
theorem lnA_tot : ∀ (X : List Int) (F : List (List Int)) (C : List Int), totL (lnA F C X) ≤ totL F + C.length + X.length ∧ (lnA F C X).length ≤ F.length + 1 + X.length
  | [], F, C => by unfold lnA; rw [totL_app]; simp [totL]
  | b :: r, F, C => by
    unfold lnA
    split
    · have := lnA_tot r (F ++ [C]) []
      rw [totL_app] at this
      simp [totL] at this ⊢
      omega
    · have := lnA_tot r F (C ++ [b])
      simp at this ⊢
      omega
theorem lnP_tot (X : List Int) : totL (lnP X) ≤ X.length ∧ (lnP X).length ≤ X.length + 1 := by
  have := lnA_tot X [] []
  simp [totL] at this
  unfold lnP
  omega
theorem totL_mem : ∀ {L : List (List Int)} {Y : List Int}, Y ∈ L → Y.length ≤ totL L
  | [], Y, h => by cases h
  | Z :: r, Y, h => by
    unfold totL
    rcases List.mem_cons.1 h with h | h
    · subst h; omega
    · have := totL_mem h; omega
theorem tkP_le (X : List Int) : (tkP X).length ≤ X.length := by
  have := tkL_le (lnP X) [] 0
  have := (lnP_tot X).1
  unfold tkP
  simp at *
  omega
abbrev LT (B : Nat) (Z : Nat → Prop) (w0 w : World) (F : List Tk) (v : Value) (n : Nat) : Prop := LQ .u8 e3 t3 3 181 B (fun j => j < B) Z w0 w F v n
abbrev LTo (B : Nat) (Z : Nat → Prop) (w0 w : World) (F : List Tk) (v : Value) (n : Nat) (C : List Int) (u : Value) (m : Nat) : Prop := LO .u8 e3 t3 3 181 5 B (fun j => j < B) Z w0 w F v n C u m
def TkPost (w : World) (F : List Tk) (e : Ending) (w' : World) : Prop := ∃ v n, e = .returned v ∧ LP .u8 e3 t3 3 181 w.heap.size w' F v n ∧ Ex (fun _ => False) w w'
theorem IK.ul {w : World} {a : Option Addr} {X : List Int} (h : IK .u8 w a X) : UL w a X := h
set_option linter.unusedSimpArgs false in
set_option maxRecDepth 100000 in
set_option maxHeartbeats 8000000 in
/-- cnfm.tokens -/
theorem tokensM_any (w : World) (a : Option Addr) (c : Nat) (X : List Int) (h : UL w a X) (hl : X.length ≤ 1000000000) :
    Calls Tryz.prog 136 #[.slice a X.length c] w (TkPost w (tkP X)) := by
  obtain ⟨i0, hi0, hz0, hz1, hz2⟩ := info_of Tryz.info5
  have HI0 := hide (And.intro hi0 (And.intro hz0 (And.intro hz1 hz2)))
  clear hi0 hz0 hz1 hz2
  obtain ⟨i1, hi0, hz0, hz1, hz2⟩ := info_of Tryz.info181
  have HI1 := hide (And.intro hi0 (And.intro hz0 (And.intro hz1 hz2)))
  clear hi0 hz0 hz1 hz2
  have HPo : Hid (∀ F v n wy w', F = tkP X → Ex (fun _ => False) w wy → LT w.heap.size (fun j => j = w.heap.size) wy w' F v n → TkPost w (tkP X) (.returned v) w') := fun F v n wy w' e h1 h => ⟨v, n, rfl, e ▸ h.lp (fun _ z => z), h1.trans2 h.ex (fun j z => .inr (by omega))⟩
  have HTL : Hid ((tkP X).length ≤ 1000000000) := Nat.le_trans (tkP_le X) hl
  have HLT : Hid (totL (lnP X) ≤ 1000000000) := Nat.le_trans (lnP_tot X).1 hl
  have HLN : Hid ((lnP X).length ≤ 1000000001) := Nat.le_trans (lnP_tot X).2 (by omega)
  have HR : Hid (tkL [] 0 ((lnP X).drop 0) = tkP X) := rfl
  obtain ⟨R, hR⟩ : ∃ R, TkPost w (tkP X) = R := ⟨_, rfl⟩
  rw [hR] at HPo ⊢
  clear hR
  generalize tkP X = R0 at *
  have c156 := hide (linesM_any (w.alloc (.cells #[] 181)) a c X (h.keep (Ex.of (be1 w _))) hl)
  generalize lnP X = Ls at *
  clear h
  have HQ0 := hide (LQ.zero (k := .u8) (enc := e3) (txt := t3) (s := 3) (T := 181) (w := w))
  have HSZ1 := hide (szAl w (.cells #[] 181))
  go_enter Tryz.func136, Tryz.ntmps136
  go_wp2_with fail
  refine c156.out.mono ?_
  rintro e w2 ⟨vl, nl, rfl, hlp, hex⟩
  clear c156
  have HLP := hide hlp
  have HEX := hide hex
  clear hlp hex
  have hnl : nl ≤ 1000000001 := by have := HLN.out; have := HLP.out.hn; omega
  have HEw : Hid (Ex (fun _ => False) w w2) := HQ0.out.ex.trans HEX.out
  have HQ1 : Hid (LT w.heap.size (fun j => j = w.heap.size) w2 w2 [] (.slice (some ⟨w.heap.size, 0, none⟩) 0 0) 0) := by obtain ⟨V, q1, q2⟩ := HQ0.out.ro; exact ⟨rfl, ⟨V, own_kept q1 HEX.out (fun _ _ z => z), q2.keep HEX.out⟩, Ex.refl _ _, fun j h => .inl (by simp [Value.ownBlock] at h; omega), HQ0.out.xv, fun j z => Nat.lt_of_lt_of_le z HEw.out.size, HEw.out.size⟩
  clear HQ0 HEX
  generalize w.alloc (.cells #[] 181) = w1 at *
  obtain ⟨al, cl, hvl⟩ : ∃ al cl, vl = .slice al nl cl := by obtain ⟨V, h1, _⟩ := HLP.out.ro; exact own_form h1
  subst hvl
  go_wp2_with fail
  go_loopw [3, 14] (fun s3 s14 wx => ∃ (i no co : Nat) (ao : Option Addr) (F : List Tk), s14 = .int .i64 i ∧ s3 = .slice ao no co ∧ i ≤ nl ∧ Hid (tkL F i (Ls.drop i) = R0) ∧ Hid (LT w.heap.size (fun j => j = w.heap.size) w2 wx F (.slice ao no co) no)) (fun _ s14 _ => nl - (intOf s14).toNat)
  case atStart => exact ⟨0, 0, 0, _, [], rfl, rfl, Nat.zero_le _, HR, HQ1⟩
  case round =>
    clear HR HQ1
    obtain ⟨i, no, co, ao, F, rfl, rfl, hi, HS, HQ⟩ := hrel
    generalize hgw : wr = wl at *
    clear hgw
    have hw1 : wrap64 ((i : Int) + 1) = ((i + 1 : Nat) : Int) := by unfold wrap64; omega
    by_cases hlt : i < nl
    · have hib : decide ((i : Int) < (nl : Int)) = true := decide_eq_true (by omega)
      have hii : (i : Int) < (nl : Int) := by omega
      obtain ⟨Y, hY⟩ : ∃ Y, Ls[i]? = some Y := ⟨_, List.getElem?_eq_getElem (by rw [HLP.out.hn]; exact hlt)⟩
      rw [drop_consG hY] at HS
      obtain ⟨gl, cv, a1, c1, ev, -, hcl, hik, -, -, hblk⟩ := HLP.out.at (s := 1) (fun _ _ => rfl) hY
      injection ev with ev _ ev2
      subst ev ev2
      have hrow : w.heap.size + 1 ≤ gl := by obtain ⟨V, h1, _⟩ := HLP.out.ro; have := (h1.lt gl rfl).1; rw [HSZ1.out] at this; exact this
      have x0 : wl.cell? ⟨gl, i, none⟩ = some (.slice a1 Y.length c1) := by have := HQ.out.ex.cell (fun z => by omega) (hcl 0 (by decide) _ rfl); rw [Nat.mul_one, Nat.add_zero] at this; exact this
      have HIK : Hid (∀ wx, Ex (fun j => j = w.heap.size) w2 wx → UL wx a1 Y) := fun wx hx => (hik.keep hx (fun g off ea z => (hblk g off ea).2 (.inr (by rw [HSZ1.out]; omega)))).ul
      have hYl : Y.length ≤ 1000000000 := Nat.le_trans (totL_mem (List.mem_of_getElem? hY)) HLT.out
      clear hcl hik hblk hY hrow
      have HS1 : Hid ((if Y.head? = some 99 then tkL F (i + 1) (Ls.drop (i + 1)) else tkL (tkA ((i : Int) + 1) Y.length F [] 0 Y) (i + 1) (Ls.drop (i + 1))) = R0) := HS.out
      clear HS
      obtain ⟨k, hk⟩ : ∃ k, Y.length = k := ⟨_, rfl⟩
      have HK := hide hk
      rw [hk] at x0 hYl HS1
      clear hk
      by_cases hc99 : Y.head? = some 99
      · rw [if_pos hc99] at HS1
        obtain ⟨y, Y2, hYc⟩ : ∃ y Y2, Y = y :: Y2 := by cases Y with | nil => simp at hc99 | cons y Y2 => exact ⟨y, Y2, rfl⟩
        subst hYc
        simp at hc99
        subst hc99
        obtain ⟨g, o, ea, y0⟩ := HIK.out wl HQ.out.ex 0 99 rfl
        subst ea
        have hk0 : 0 < k := by rw [← HK.out]; simp
        have hk0b : decide ((0 : Int) < (k : Int)) = true := decide_eq_true (by omega)
        have hk0i : (0 : Int) < (k : Int) := by omega
        rw [Nat.add_zero] at y0
        go_wp2
        go_roundw
        case rel => exact ⟨i + 1, no, _, _, F, by go_num, rfl, by omega, HS1, HQ⟩
        case measure => (simp [intOf]; try omega)
      · rw [if_neg hc99] at HS1
        have HH : Hid (k = 0 ∨ (0 < k ∧ ∃ g o y, a1 = some ⟨g, o, none⟩ ∧ wl.cell? ⟨g, o, none⟩ = some (.int .u8 y) ∧ (y == 99) = false)) := by
          cases Y with
          | nil => exact .inl HK.out.symm
          | cons y Y2 =>
            obtain ⟨g, o, ea, y0⟩ := HIK.out wl HQ.out.ex 0 y rfl
            refine .inr ⟨by rw [← HK.out]; simp, g, o, y, ea, y0, ?_⟩
            simp at hc99
            simpa using hc99
        clear hc99
        generalize htk : tkA ((i : Int) + 1) k F [] 0 Y = R1 at *
        have HR1 : Hid (tkA ((i : Int) + 1) k F [] 0 (Y.drop 0) = R1) := htk
        have HR1L : Hid (R1.length ≤ 1000000000) := by have := tkL_ge (Ls.drop (i + 1)) R1 (i + 1); rw [HS1.out] at this; exact Nat.le_trans this HTL.out
        clear htk
        have HL0 := hide (HQ.out.open (t := 5))
        clear HQ
        rcases HH.out with hk0 | ⟨hk0, g1, o1, y, ea, y0, hy⟩
        · subst hk0
          have hY0 : Y = [] := List.length_eq_zero_iff.1 HK.out
          subst hY0
          have HRF : Hid (F = R1) := HR1.out
          clear HR1 HH HK
          go_upto_region 8 with fail
          go_loopw [3, 6, 31] (fun s3 s6 s31 wx => s31 = .int .i64 0 ∧ s3 = .slice ao no co ∧ Hid (LT w.heap.size (fun j => j = w.heap.size) w2 wx F (.slice ao no co) no)) (fun _ _ _ _ => 0)
          case atStart => exact ⟨rfl, rfl, HL0.out.shut⟩
          case round =>
            clear HL0
            obtain ⟨rfl, rfl, HQ2⟩ := hrel
            go_wp2
            go_roundw
            case rel => exact ⟨i + 1, no, _, _, F, by go_num, rfl, by omega, (by rw [HRF.out]; exact HS1), HQ2⟩
            case measure => (simp [intOf]; try omega)
        · subst ea
          have hk0b : decide ((0 : Int) < (k : Int)) = true := decide_eq_true (by omega)
          have hk0i : (0 : Int) < (k : Int) := by omega
          go_upto_region 8 with fail
          clear y0 hy x0 HH
          generalize wl.alloc (.cells #[] 5) = wa at *
          generalize wl.heap.size = ba at *
          go_loopw [3, 6, 31] (fun s3 s6 s31 wx => ∃ (j no m co cm : Nat) (ao am : Option Addr) (F : List Tk) (C : List Int), s31 = .int .i64 j ∧ s3 = .slice ao no co ∧ s6 = .slice am m cm ∧ j ≤ k ∧ m ≤ j ∧ Hid (tkA ((i : Int) + 1) k F C j (Y.drop j) = R1) ∧ Hid (LTo w.heap.size (fun j => j = w.heap.size) w2 wx F (.slice ao no co) no C (.slice am m cm) m)) (fun _ _ s31 _ => k - (intOf s31).toNat)
          case atStart => exact ⟨0, no, 0, _, 0, _, _, F, [], rfl, rfl, rfl, Nat.zero_le _, Nat.le_refl _, HR1, HL0⟩
          case round =>
            clear HR1 HL0
            obtain ⟨j, no, m, co, cm, ao, am, F, C, rfl, rfl, rfl, hj, hmj, HS, HL⟩ := hrel
            generalize hgw : wr = wv at *
            clear hgw
            have hw2 : wrap64 ((j : Int) + 1) = ((j + 1 : Nat) : Int) := by unfold wrap64; omega
            have hno : no ≤ 1000000000 := by have h1 := tkA_ge ((i : Int) + 1) k (Y.drop j) F C j; rw [HS.out, HL.out.hn] at h1; exact Nat.le_trans h1 HR1L.out
            by_cases hjt : j < k
            · have hjb : decide ((j : Int) < (k : Int)) = true := decide_eq_true (by omega)
              have hji : (j : Int) < (k : Int) := by omega
              obtain ⟨b, hb⟩ : ∃ b, Y[j]? = some b := ⟨_, List.getElem?_eq_getElem (by rw [HK.out]; exact hjt)⟩
              obtain ⟨g, o, ea, x0⟩ := HIK.out wv HL.out.ex j b hb
              cases ea
              rw [drop_consG hb] at HS
              have HSb : Hid ((if spM b = true then (if 0 < C.length then tkA ((i : Int) + 1) k (F ++ [⟨C, (i : Int) + 1, (j : Int) - 1 - C.length + 2⟩]) [] (j + 1) (Y.drop (j + 1)) else tkA ((i : Int) + 1) k F C (j + 1) (Y.drop (j + 1))) else (if j + 1 = k then tkA ((i : Int) + 1) k (F ++ [⟨C ++ [b], (i : Int) + 1, (j : Int) - ((C.length : Int) + 1) + 2⟩]) [] (j + 1) (Y.drop (j + 1)) else tkA ((i : Int) + 1) k F (C ++ [b]) (j + 1) (Y.drop (j + 1)))) = R1) := HS.out
              clear HS hb
              rw [HL.out.hm] at HSb
              obtain ⟨sp, hsp⟩ : ∃ z, spM b = z := ⟨_, rfl⟩
              have HSP := hide hsp
              rw [hsp] at HSb
              clear hsp
              cases sp
              · rw [if_neg (by simp)] at HSb
                go_wp2_with fail
                refine (spaceM_any _ b).mono ?_
                rintro e wz ⟨rfl, hw⟩
                rw [hw]
                clear hw wz
                rw [HSP.out]
                have HA3 := hide (HL.out.al (.cells #[.int .u8 b] 5))
                have HNC3 : Hid (∀ (jq : Nat) (u : Value), [Value.int .u8 b][jq]? = some u → (wv.alloc (.cells #[.int .u8 b] 5)).cell? ((⟨wv.heap.size, 0, none⟩ : Addr).add jq) = some u) := fun jq u hj => new_cells wv [.int .u8 b] 5 jq u hj
                go_upto_region 12 with (at_builtin; go_loud (refine wpList_append_lies _ rfl (.tmp 39) (.tmp 41) 35 rfl _ 5 i0 _ 1 1 Tryz.underlying35 HI0.out.1 HI0.out.2.1 HI0.out.2.2.1 HI0.out.2.2.2 rfl (by decide) (.slice am m cm) m _ rfl HA3.out.rc ⟨wv.heap.size, 0, none⟩ 1 1 [.int .u8 b] rfl rfl HNC3.out (fun u hu => by simp at hu; subst hu; rfl) (by decide) (by unfold maxLen; omega) (by omega) HA3.out.szB _ rfl ?_; intro g3 c3 w3 hr hg hat hlt2; have HL3 := hide (HA3.out.num hr hg hat); clear hr hg hat hlt2))
                clear HA3 HNC3
                clear HL x0
                have hm0b : decide ((0 : Int) < (m : Int) + 1) = true := decide_eq_true (by omega)
                have hm0i : (0 : Int) < (m : Int) + 1 := by omega
                have hm1b : decide ((0 : Int) < ((m + 1 : Nat) : Int)) = true := decide_eq_true (by omega)
                have hm1i : (0 : Int) < ((m + 1 : Nat) : Int) := by omega
                have hz4 : wrap64 ((k : Int) - 1) = (k : Int) - 1 := by unfold wrap64; omega
                by_cases hjk : j + 1 = k
                · rw [if_pos hjk] at HSb
                  have HS2 := HSb
                  clear HSb
                  have hjkb : ((j : Int) == (k : Int) - 1) = true := by simp; omega
                  have hjki : (j : Int) = (k : Int) - 1 := by omega
                  have HJK := hide hjk
                  have HJI := hide hjki
                  clear hjk hjki
                  have hz2 : wrap64 ((j : Int) - ((m : Int) + 1)) = (j : Int) - ((m : Int) + 1) := by unfold wrap64; omega
                  have hz3 : wrap64 ((j : Int) - ((m : Int) + 1) + 2) = (j : Int) - ((m : Int) + 1) + 2 := by unfold wrap64; omega
                  go_wp2_with fail
                  refine (spaceM_any _ b).mono ?_
                  rintro e wz ⟨rfl, hw⟩
                  rw [hw]
                  clear hw wz
                  rw [HSP.out]
                  go_wp2_with fail
                  refine (spaceM_any _ b).mono ?_
                  rintro e wz ⟨rfl, hw⟩
                  rw [hw]
                  clear hw wz
                  rw [HSP.out]
                  have HA4 := hide (HL3.out.al (.cells #[.slice (some ⟨g3, 0, none⟩) (m + 1) c3, .int .i64 ((i : Int) + 1), .int .i64 ((j : Int) - ((m : Int) + 1) + 2)] 181))
                  obtain ⟨V4, ho4, hv4⟩ := HA4.out.ro
                  have HO4 := hide ho4
                  have HV4 := hide hv4
                  clear ho4 hv4
                  have HNC4 : Hid (∀ (jq : Nat) (u : Value), [.slice (some ⟨g3, 0, none⟩) (m + 1) c3, .int .i64 ((i : Int) + 1), .int .i64 ((j : Int) - ((m : Int) + 1) + 2)][jq]? = some u → (w3.alloc (.cells #[.slice (some ⟨g3, 0, none⟩) (m + 1) c3, .int .i64 ((i : Int) + 1), .int .i64 ((j : Int) - ((m : Int) + 1) + 2)] 181)).cell? ((⟨w3.heap.size, 0, none⟩ : Addr).add jq) = some u) := fun jq u hj => new_cells w3 [.slice (some ⟨g3, 0, none⟩) (m + 1) c3, .int .i64 ((i : Int) + 1), .int .i64 ((j : Int) - ((m : Int) + 1) + 2)] 181 jq u hj
                  go_upto_region 17 with (at_builtin; go_loud (refine wpList_append_lies _ rfl (.tmp 62) (.tmp 72) 176 rfl _ 181 i1 _ 3 40 Tryz.underlying176 HI1.out.1 HI1.out.2.1 HI1.out.2.2.1 HI1.out.2.2.2 rfl (by decide) (.slice ao no co) no V4 rfl HO4.out ⟨w3.heap.size, 0, none⟩ 1 1 [.slice (some ⟨g3, 0, none⟩) (m + 1) c3, .int .i64 ((i : Int) + 1), .int .i64 ((j : Int) - ((m : Int) + 1) + 2)] rfl rfl HNC4.out (fun u hu => (by simp at hu; rcases hu with hu | hu | hu <;> (subst hu; rfl))) (by decide) (by unfold maxLen; omega) (by omega) HA4.out.szB _ rfl ?_; intro g4 c4 w4 hr hg hat hlt2; have HP4 := hide (HA4.out.push (x := ⟨(C ++ [b]), (i : Int) + 1, (j : Int) - ((m : Int) + 1) + 2⟩) rfl HV4.out hr hg hat); clear hr hg hat hlt2))
                  clear HA4 HNC4 HO4 HV4
                  have HL6 := hide (HP4.out.open (t := 5))
                  clear HP4
                  go_wp2
                  go_roundw
                  case rel => exact ⟨j + 1, no + 1, 0, _, 0, _, _, _, [], by go_num, rfl, rfl, by omega, by omega, HS2, HL6⟩
                  case measure => (simp [intOf]; try omega)
                · rw [if_neg hjk] at HSb
                  have hjkb : ((j : Int) == (k : Int) - 1) = false := by simp; omega
                  have hjki : ¬ (j : Int) = (k : Int) - 1 := by omega
                  clear hjk
                  go_wp2_with fail
                  refine (spaceM_any _ b).mono ?_
                  rintro e wz ⟨rfl, hw⟩
                  rw [hw]
                  clear hw wz
                  rw [HSP.out]
                  go_wp2
                  go_roundw
                  case rel => exact ⟨j + 1, no, m + 1, _, _, _, _, F, C ++ [b], by go_num, rfl, rfl, by omega, by omega, HSb, HL3⟩
                  case measure => (simp [intOf]; try omega)
              · rw [if_pos rfl] at HSb
                go_wp2_with fail
                refine (spaceM_any _ b).mono ?_
                rintro e wz ⟨rfl, hw⟩
                rw [hw]
                clear hw wz
                rw [HSP.out]
                by_cases hm0 : 0 < m
                · rw [if_pos hm0] at HSb
                  have HS2 := HSb
                  clear HSb
                  have hm0b : decide ((0 : Int) < (m : Int)) = true := decide_eq_true (by omega)
                  have hm0i : (0 : Int) < (m : Int) := by omega
                  have hz1 : wrap64 ((j : Int) - 1) = (j : Int) - 1 := by unfold wrap64; omega
                  have hz2 : wrap64 ((j : Int) - 1 - (m : Int)) = (j : Int) - 1 - (m : Int) := by unfold wrap64; omega
                  have hz3 : wrap64 ((j : Int) - 1 - (m : Int) + 2) = (j : Int) - 1 - (m : Int) + 2 := by unfold wrap64; omega
                  go_wp2_with fail
                  refine (spaceM_any _ b).mono ?_
                  rintro e wz ⟨rfl, hw⟩
                  rw [hw]
                  clear hw wz
                  rw [HSP.out]
                  go_wp2_with fail
                  refine (spaceM_any _ b).mono ?_
                  rintro e wz ⟨rfl, hw⟩
                  rw [hw]
                  clear hw wz
                  rw [HSP.out]
                  have HA4 := hide (HL.out.al (.cells #[.slice am m cm, .int .i64 ((i : Int) + 1), .int .i64 ((j : Int) - 1 - (m : Int) + 2)] 181))
                  obtain ⟨V4, ho4, hv4⟩ := HA4.out.ro
                  have HO4 := hide ho4
                  have HV4 := hide hv4
                  clear ho4 hv4
                  have HNC4 : Hid (∀ (jq : Nat) (u : Value), [.slice am m cm, .int .i64 ((i : Int) + 1), .int .i64 ((j : Int) - 1 - (m : Int) + 2)][jq]? = some u → (wv.alloc (.cells #[.slice am m cm, .int .i64 ((i : Int) + 1), .int .i64 ((j : Int) - 1 - (m : Int) + 2)] 181)).cell? ((⟨wv.heap.size, 0, none⟩ : Addr).add jq) = some u) := fun jq u hj => new_cells wv [.slice am m cm, .int .i64 ((i : Int) + 1), .int .i64 ((j : Int) - 1 - (m : Int) + 2)] 181 jq u hj
                  go_upto_region 17 with (at_builtin; go_loud (refine wpList_append_lies _ rfl (.tmp 62) (.tmp 72) 176 rfl _ 181 i1 _ 3 40 Tryz.underlying176 HI1.out.1 HI1.out.2.1 HI1.out.2.2.1 HI1.out.2.2.2 rfl (by decide) (.slice ao no co) no V4 rfl HO4.out ⟨wv.heap.size, 0, none⟩ 1 1 [.slice am m cm, .int .i64 ((i : Int) + 1), .int .i64 ((j : Int) - 1 - (m : Int) + 2)] rfl rfl HNC4.out (fun u hu => (by simp at hu; rcases hu with hu | hu | hu <;> (subst hu; rfl))) (by decide) (by unfold maxLen; omega) (by omega) HA4.out.szB _ rfl ?_; intro g4 c4 w4 hr hg hat hlt2; have HP4 := hide (HA4.out.push (x := ⟨C, (i : Int) + 1, (j : Int) - 1 - (m : Int) + 2⟩) rfl HV4.out hr hg hat); clear hr hg hat hlt2))
                  clear HA4 HNC4 HO4 HV4
                  have HL6 := hide (HP4.out.open (t := 5))
                  clear HP4
                  go_wp2
                  go_roundw
                  case rel => exact ⟨j + 1, no + 1, 0, _, 0, _, _, _, [], by go_num, rfl, rfl, by omega, by omega, HS2, HL6⟩
                  case measure => (simp [intOf]; try omega)
                · rw [if_neg hm0] at HSb
                  have hm0b : decide ((0 : Int) < (m : Int)) = false := decide_eq_false (by omega)
                  have hm0i : ¬ (0 : Int) < (m : Int) := by omega
                  clear hm0
                  go_wp2
                  go_roundw
                  case rel => exact ⟨j + 1, no, m, _, _, _, _, F, C, by go_num, rfl, rfl, by omega, by omega, HSb, HL⟩
                  case measure => (simp [intOf]; try omega)
            · have hjb : decide ((j : Int) < (k : Int)) = false := decide_eq_false (by omega)
              rw [List.drop_of_length_le (by rw [HK.out]; omega)] at HS
              have HSF : Hid (F = R1) := by have := HS.out; unfold tkA at this; exact this
              have HQ2 : Hid (LT w.heap.size (fun j => j = w.heap.size) w2 wv F (.slice ao no co) no) := HL.out.shut
              clear HL HS
              have hjk : ¬ (j : Int) < (k : Int) := by omega
              go_wp2
              go_roundw
              case rel => exact ⟨i + 1, no, _, _, F, by go_num, rfl, by omega, (by rw [HSF.out]; exact HS1), HQ2⟩
              case measure => (simp [intOf]; try omega)
    · have hib : decide ((i : Int) < (nl : Int)) = false := decide_eq_false (by omega)
      rw [List.drop_of_length_le (by rw [HLP.out.hn]; omega)] at HS
      have HSF : Hid (F = R0) := by have := HS.out; unfold tkL at this; exact this
      have HPO := hide (HPo.out F _ _ w2 wl HSF.out HEw.out HQ.out)
      clear HPo HQ HS
      have hik : ¬ (i : Int) < (nl : Int) := by omega
      go_wp2_with (with_reducible refine bodyPost_ret (v := .slice ao no co) ?hr ?hd ?hp)
      case hr => simp [results, Tryz.results136, go_sem]
      case hd => rfl
      case hp => exact HPO.out
end Go.Proofs.Qxb6500773aGreat
