import Derived.Test.Qxb6500773aGreatMu
namespace Go.Proofs.Qxb6500773aGreat
open Go.RowKit

theorem Tryz.info35 : (Tryz.prog.info? 35).map (fun i => (i.zero, i.size, i.bytes)) = some (some (.slice none 0 0), 1, 24) := by kernel_rfl
def e1 (_ : List Int) (v : Value) : List Value := [v]
def t1 (x : List Int) : List Int := x
/-- the lines of a text -/
def lnA (out : List (List Int)) (cur : List Int) : List Int → List (List Int)
  | [] => out ++ [cur]
  | b :: r => if b = 10 then lnA (out ++ [cur]) [] r else lnA out (cur ++ [b]) r
def lnP (X : List Int) : List (List Int) := lnA [] [] X
def LnPost (w : World) (F : List (List Int)) (e : Ending) (w' : World) : Prop := ∃ v n, e = .returned v ∧ LP .u8 e1 t1 1 35 w.heap.size w' F v n ∧ Ex (fun _ => False) w w'
theorem szAl (w : World) (o : Obj) : (w.alloc o).heap.size = w.heap.size + 1 := Array.size_push _
set_option linter.unusedSimpArgs false in
set_option maxRecDepth 100000 in
set_option maxHeartbeats 8000000 in
/-- cnfm.lines -/
theorem linesM_any (w : World) (a : Option Addr) (c : Nat) (X : List Int) (h : UL w a X) (hl : X.length ≤ 1000000000) :
    Calls Tryz.prog 156 #[.slice a X.length c] w (LnPost w (lnP X)) := by
  obtain ⟨i0, hi0, hz0, hz1, hz2⟩ := info_of Tryz.info5
  have HI0 := hide (And.intro hi0 (And.intro hz0 (And.intro hz1 hz2)))
  clear hi0 hz0 hz1 hz2
  obtain ⟨i1, hi0, hz0, hz1, hz2⟩ := info_of Tryz.info35
  have HI1 := hide (And.intro hi0 (And.intro hz0 (And.intro hz1 hz2)))
  clear hi0 hz0 hz1 hz2
  have HX := hide h
  clear h
  have HR : Hid (lnA [] [] (X.drop 0) = lnP X) := rfl
  have HPo : Hid (∀ F v n w', F = lnP X → LQ .u8 e1 t1 1 35 w.heap.size (fun j => j < w.heap.size) (fun _ => False) w w' F v n → LnPost w (lnP X) (.returned v) w') := fun F v n w' e h => ⟨v, n, rfl, e ▸ h.lp (fun _ z => z), h.ex⟩
  obtain ⟨R, hR⟩ : ∃ R, LnPost w (lnP X) = R := ⟨_, rfl⟩
  rw [hR] at HPo ⊢
  clear hR
  generalize lnP X = R0 at *
  obtain ⟨n, hn⟩ : ∃ n, X.length = n := ⟨_, rfl⟩
  have HN := hide hn
  rw [hn] at hl ⊢
  clear hn
  have HL0 := hide ((LQ.zero (k := .u8) (enc := e1) (txt := t1) (s := 1) (T := 35) (w := w)).open (t := 5))
  rw [szAl] at HL0
  go_enter Tryz.func156, Tryz.ntmps156
  go_upto_region 3 with fail
  generalize (w.alloc (.cells #[] 35)).alloc (.cells #[] 5) = w1 at *
  go_wp2_with fail
  go_loopw [3, 4, 6, 11] (fun s3 s4 _ s11 wx => ∃ (i no m co cm : Nat) (ao am : Option Addr) (F : List (List Int)) (C : List Int), s11 = .int .i64 i ∧ s3 = .slice ao no co ∧ s4 = .slice am m cm ∧ i ≤ n ∧ no ≤ i ∧ m ≤ i ∧ Hid (lnA F C (X.drop i) = R0) ∧ Hid (LO .u8 e1 t1 1 35 5 w.heap.size (fun j => j < w.heap.size) (fun _ => False) w wx F (.slice ao no co) no C (.slice am m cm) m)) (fun _ _ _ s11 _ => n - (intOf s11).toNat)
  case atStart => exact ⟨0, 0, 0, 0, 0, _, _, [], [], rfl, rfl, rfl, Nat.zero_le _, Nat.le_refl _, Nat.le_refl _, HR, HL0⟩
  case round =>
    clear HR HL0
    obtain ⟨i, no, m, co, cm, ao, am, F, C, rfl, rfl, rfl, hi, hno, hmi, HS, HL⟩ := hrel
    have hw1 : wrap64 ((i : Int) + 1) = ((i + 1 : Nat) : Int) := by unfold wrap64; omega
    by_cases hlt : i < n
    · have hib : decide ((i : Int) < (n : Int)) = true := decide_eq_true (by omega)
      have hii : (i : Int) < (n : Int) := by omega
      obtain ⟨x, hx⟩ : ∃ x, X[i]? = some x := ⟨_, List.getElem?_eq_getElem (by rw [HN.out]; exact hlt)⟩
      obtain ⟨g, o, ea, x0⟩ := (HX.out.keep HL.out.ex) i x hx
      subst ea
      rw [drop_consG hx] at HS
      have HS2 : Hid ((if x = 10 then lnA (F ++ [C]) [] (X.drop (i + 1)) else lnA F (C ++ [x]) (X.drop (i + 1))) = R0) := HS.out
      clear HS hx
      by_cases h10 : x = 10
      · have h10b : (x == 10) = true := by simp [h10]
        rw [if_pos h10] at HS2
        clear h10
        have HA4 := hide (HL.out.al (.cells #[.slice am m cm] 35))
        obtain ⟨V4, ho4, hv4⟩ := HA4.out.ro
        have HO4 := hide ho4
        have HV4 := hide hv4
        clear ho4 hv4
        have HNC4 : Hid (∀ (jq : Nat) (u : Value), [.slice am m cm][jq]? = some u → (wr.alloc (.cells #[.slice am m cm] 35)).cell? ((⟨wr.heap.size, 0, none⟩ : Addr).add jq) = some u) := fun jq u hj => new_cells wr [.slice am m cm] 35 jq u hj
        go_upto_region 8 with (at_builtin; go_loud (refine wpList_append_lies _ rfl (.tmp 17) (.tmp 19) 193 rfl _ 35 i1 _ 1 24 Tryz.underlying193 HI1.out.1 HI1.out.2.1 HI1.out.2.2.1 HI1.out.2.2.2 rfl (by decide) (.slice ao no co) no V4 rfl HO4.out ⟨wr.heap.size, 0, none⟩ 1 1 [.slice am m cm] rfl rfl HNC4.out (fun u hu => (by simp at hu; subst hu; rfl)) (by decide) (by unfold maxLen; omega) (by omega) HA4.out.szB _ rfl ?_; intro g4 c4 w4 hr hg hat hlt2; have HP4 := hide (HA4.out.push (x := C) rfl HV4.out hr hg hat); clear hr hg hat hlt2))
        clear HA4 HNC4 HO4 HV4
        have HL5 := hide (HP4.out.open (t := 5))
        clear HP4 HL
        go_wp2
        go_roundw
        case rel => exact ⟨i + 1, no + 1, 0, _, 0, _, _, F ++ [C], [], by go_num, rfl, rfl, by omega, by omega, by omega, HS2, HL5⟩
        case measure => (simp [intOf]; try omega)
      · have h10b : (x == 10) = false := by simp [h10]
        rw [if_neg h10] at HS2
        clear h10
        have HA3 := hide (HL.out.al (.cells #[.int .u8 x] 5))
        have HNC3 : Hid (∀ (jq : Nat) (u : Value), [Value.int .u8 x][jq]? = some u → (wr.alloc (.cells #[.int .u8 x] 5)).cell? ((⟨wr.heap.size, 0, none⟩ : Addr).add jq) = some u) := fun jq u hj => new_cells wr [.int .u8 x] 5 jq u hj
        go_upto_region 10 with (at_builtin; go_loud (refine wpList_append_lies _ rfl (.tmp 22) (.tmp 24) 35 rfl _ 5 i0 _ 1 1 Tryz.underlying35 HI0.out.1 HI0.out.2.1 HI0.out.2.2.1 HI0.out.2.2.2 rfl (by decide) (.slice am m cm) m _ rfl HA3.out.rc ⟨wr.heap.size, 0, none⟩ 1 1 [.int .u8 x] rfl rfl HNC3.out (fun u hu => by simp at hu; subst hu; rfl) (by decide) (by unfold maxLen; omega) (by omega) HA3.out.szB _ rfl ?_; intro g3 c3 w3 hr hg hat hlt2; have HL3 := hide (HA3.out.num hr hg hat); clear hr hg hat hlt2))
        clear HA3 HNC3
        clear HL
        go_wp2
        go_roundw
        case rel => exact ⟨i + 1, no, m + 1, _, _, _, _, F, C ++ [x], by go_num, rfl, rfl, by omega, by omega, by omega, HS2, HL3⟩
        case measure => (simp [intOf]; try omega)
    · have hib : decide ((i : Int) < (n : Int)) = false := decide_eq_false (by omega)
      rw [List.drop_of_length_le (by rw [HN.out]; omega)] at HS
      have HS2 : Hid (F ++ [C] = R0) := HS.out
      clear HS hw1
      have HA4 := hide (HL.out.al (.cells #[.slice am m cm] 35))
      obtain ⟨V4, ho4, hv4⟩ := HA4.out.ro
      have HO4 := hide ho4
      have HV4 := hide hv4
      clear ho4 hv4
      have HNC4 : Hid (∀ (jq : Nat) (u : Value), [.slice am m cm][jq]? = some u → (wr.alloc (.cells #[.slice am m cm] 35)).cell? ((⟨wr.heap.size, 0, none⟩ : Addr).add jq) = some u) := fun jq u hj => new_cells wr [.slice am m cm] 35 jq u hj
      go_wp2_with (at_builtin; go_loud (refine wpList_append_lies _ rfl (.tmp 27) (.tmp 29) 193 rfl _ 35 i1 _ 1 24 Tryz.underlying193 HI1.out.1 HI1.out.2.1 HI1.out.2.2.1 HI1.out.2.2.2 rfl (by decide) (.slice ao no co) no V4 rfl HO4.out ⟨wr.heap.size, 0, none⟩ 1 1 [.slice am m cm] rfl rfl HNC4.out (fun u hu => (by simp at hu; subst hu; rfl)) (by decide) (by unfold maxLen; omega) (by omega) HA4.out.szB _ rfl ?_; intro g4 c4 w4 hr hg hat hlt2; have HP4 := hide (HA4.out.push (x := C) rfl HV4.out hr hg hat); clear hr hg hat hlt2))
      clear HA4 HNC4 HO4 HV4
      exact HPo.out _ _ _ _ HS2.out HP4.out
end Go.Proofs.Qxb6500773aGreat
