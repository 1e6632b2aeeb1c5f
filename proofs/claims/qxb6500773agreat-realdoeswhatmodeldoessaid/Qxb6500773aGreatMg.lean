import Derived.Test.Qxb6500773aGreatMf
namespace Go.Proofs.Qxb6500773aGreat
open Go.RowKit

/-- a row of rows of numbers -/
def FL (w : World) (a : Option Addr) (F : List (List Int)) : Prop := ∀ (j : Nat) (C : List Int), F[j]? = some C → ∃ g off a1 c1, a = some ⟨g, off, none⟩ ∧ w.cell? ⟨g, off + j, none⟩ = some (.slice a1 C.length c1) ∧ IL w a1 C ∧ C.length ≤ c1 ∧ c1 ≤ maxLen
theorem FL.keep {w w' : World} {a : Option Addr} {F : List (List Int)} (h : FL w a F) (k : Ex (fun _ => False) w w') : FL w' a F := fun j C hx => by
  obtain ⟨g, off, a1, c1, e, hc, hi, h1⟩ := h j C hx
  exact ⟨g, off, a1, c1, e, k.cell (fun z => z) hc, hi.keep k (fun _ _ _ z => z), h1⟩
/-- each clause is short and of 64-bit numbers -/
def FB (F : List (List Int)) : Prop := ∀ C ∈ F, C.length ≤ 1000000000 ∧ ∀ x ∈ C, I64 x
def mffP (A : List Int) : List (List Int) → Nat → Int
  | [], _ => -1
  | C :: F, i => if emP C A = -1 then (i : Int) else mffP A F (i + 1)
def mefP (F : List (List Int)) (A : List Int) : Int := if F.any (fun C => emP C A == -1) = true then -1 else if F.any (fun C => emP C A == 0) = true then 0 else 1
def ExPost (w : World) (v : Value) (e : Ending) (w' : World) : Prop := e = .returned v ∧ Ex (fun _ => False) w w'
theorem ret_intK {k : IntKind} {a b : Int} (h : a = b) : Ending.returned (.int k a) = Ending.returned (.int k b) := by rw [h]
set_option linter.unusedSimpArgs false in
set_option maxRecDepth 100000 in
set_option maxHeartbeats 8000000 in
/-- cnfm.FirstFalsified -/
theorem firstFalsM_any (w : World) (nv : Int) (af : Option Addr) (cf : Nat) (F : List (List Int)) (aa : Option Addr) (ca : Nat) (A : List Int) (hF : FL w af F) (hA : IL w aa A) (hl : F.length ≤ 1000000000) (hlA : A.length ≤ 1000000000) (hB : FB F) :
    Calls Tryz.prog 84 #[.agg #[.int .i64 nv, .slice af F.length cf], .slice aa A.length ca] w (ExPost w (.int .i64 (mffP A F 0))) := by
  have HR : Hid (mffP A (F.drop 0) 0 = mffP A F 0) := rfl
  obtain ⟨R, hR⟩ : ∃ R, mffP A F 0 = R := ⟨_, rfl⟩
  rw [hR] at HR ⊢
  clear hR
  obtain ⟨n, hn⟩ : ∃ n, F.length = n := ⟨_, rfl⟩
  have HN := hide hn
  rw [hn] at hl ⊢
  clear hn
  obtain ⟨q, hq⟩ : ∃ q, A.length = q := ⟨_, rfl⟩
  have HQ := hide hq
  rw [hq] at hlA ⊢
  clear hq
  have HL := hide hB
  have HE0 : Hid (Ex (fun _ => False) w (w.alloc (.cells #[.int .i64 nv, .slice af n cf] 29))) := (Ex.refl _ w).alloc _
  have HF := hide (hF.keep HE0.out)
  have HA := hide (hA.keep HE0.out (fun _ _ _ z => z))
  clear hB hF hA
  go_enter Tryz.func84, Tryz.ntmps84
  go_upto_region 1 with fail
  have f1 : (w.alloc (.cells #[.int .i64 nv, .slice af n cf] 29)).cell? ⟨w.heap.size, 1, none⟩ = some (.slice af n cf) := new_cells w [.int .i64 nv, .slice af n cf] 29 1 _ rfl
  generalize w.alloc (.cells #[.int .i64 nv, .slice af n cf] 29) = w1 at *
  go_wp2_with fail
  go_loopw [5, 6, 10] (fun _ _ s10 wx => ∃ (i : Nat), s10 = .int .i64 i ∧ i ≤ n ∧ Hid (mffP A (F.drop i) i = R) ∧ w1 = wx) (fun _ _ s10 _ => n - (intOf s10).toNat)
  case atStart => exact ⟨0, rfl, Nat.zero_le _, HR, rfl⟩
  case round =>
    clear HR
    obtain ⟨i, rfl, hi, HS, rfl⟩ := hrel
    have hw1 : wrap64 ((i : Int) + 1) = ((i + 1 : Nat) : Int) := by unfold wrap64; omega
    by_cases hlt : i < n
    · have hib : decide ((i : Int) < (n : Int)) = true := decide_eq_true (by omega)
      have hii : (i : Int) < (n : Int) := by omega
      obtain ⟨C, hx⟩ : ∃ x, F[i]? = some x := ⟨_, List.getElem?_eq_getElem (by rw [HN.out]; exact hlt)⟩
      obtain ⟨g, o, a1, c1, ea, x0, hil, hcc⟩ := HF.out i C hx
      subst ea
      rw [drop_consG hx] at HS
      have HXM : Hid (C ∈ F) := List.mem_of_getElem? hx
      have c81 := hide (evalM_any w1 a1 c1 C aa ca A hil HA.out (HL.out C HXM.out).1 (by rw [HQ.out]; exact hlA) (HL.out C HXM.out).2)
      rw [HQ.out] at c81
      clear hx hil hcc
      obtain ⟨k, hk⟩ : ∃ k, C.length = k := ⟨_, rfl⟩
      rw [hk] at c81 x0
      clear hk
      have HS2 : Hid ((if emP C A = -1 then (i : Int) else mffP A (F.drop (i + 1)) (i + 1)) = R) := HS.out
      clear HS HXM
      generalize emP C A = ev at *
      go_wp2_with fail
      refine c81.out.mono ?_
      rintro e wz ⟨rfl, hw⟩
      rw [hw]
      clear hw wz c81
      by_cases hev : ev = -1
      · have hevb : (ev == -1) = true := by simp [hev]
        rw [if_pos hev] at HS2
        clear hev
        go_wp2
        exact bodyPost_ret (v := .int .i64 i) (by simp [results, Tryz.results84, go_sem]) rfl ⟨ret_intK HS2.out, HE0.out⟩
      · have hevb : (ev == -1) = false := by simp [hev]
        rw [if_neg hev] at HS2
        clear hev
        go_wp2
        go_roundw
        case rel => exact ⟨i + 1, by go_num, by omega, HS2, trivial⟩
        case measure => (simp [intOf]; try omega)
    · have hib : decide ((i : Int) < (n : Int)) = false := decide_eq_false (by omega)
      rw [List.drop_of_length_le (by rw [HN.out]; omega)] at HS
      have HQ2 : Hid ((-1 : Int) = R) := HS.out
      clear HS
      go_wp2
      exact bodyPost_ret (v := .int .i64 (-1)) (by simp [results, Tryz.results84, go_sem]) rfl ⟨ret_intK HQ2.out, HE0.out⟩
set_option linter.unusedSimpArgs false in
set_option maxRecDepth 100000 in
set_option maxHeartbeats 8000000 in
/-- cnfm.EvalFormula -/
theorem evalFM_any (w : World) (nv : Int) (af : Option Addr) (cf : Nat) (F : List (List Int)) (aa : Option Addr) (ca : Nat) (A : List Int) (hF : FL w af F) (hA : IL w aa A) (hl : F.length ≤ 1000000000) (hlA : A.length ≤ 1000000000) (hB : FB F) :
    Calls Tryz.prog 83 #[.agg #[.int .i64 nv, .slice af F.length cf], .slice aa A.length ca] w (ExPost w (.int .i8 (mefP F A))) := by
  have HR : Hid ((if (F.drop 0).any (fun C => emP C A == -1) = true then -1 else if F.any (fun C => emP C A == 0) = true then 0 else 1) = mefP F A) := rfl
  obtain ⟨R, hR⟩ : ∃ R, mefP F A = R := ⟨_, rfl⟩
  rw [hR] at HR ⊢
  clear hR
  obtain ⟨n, hn⟩ : ∃ n, F.length = n := ⟨_, rfl⟩
  have HN := hide hn
  rw [hn] at hl ⊢
  clear hn
  obtain ⟨q, hq⟩ : ∃ q, A.length = q := ⟨_, rfl⟩
  have HQ := hide hq
  rw [hq] at hlA ⊢
  clear hq
  have HL := hide hB
  have HE0 : Hid (Ex (fun _ => False) w (w.alloc (.cells #[.int .i64 nv, .slice af n cf] 29))) := (Ex.refl _ w).alloc _
  have HF := hide (hF.keep HE0.out)
  have HA := hide (hA.keep HE0.out (fun _ _ _ z => z))
  clear hB hF hA
  go_enter Tryz.func83, Tryz.ntmps83
  go_upto_region 1 with fail
  have f1 : (w.alloc (.cells #[.int .i64 nv, .slice af n cf] 29)).cell? ⟨w.heap.size, 1, none⟩ = some (.slice af n cf) := new_cells w [.int .i64 nv, .slice af n cf] 29 1 _ rfl
  generalize w.alloc (.cells #[.int .i64 nv, .slice af n cf] 29) = w1 at *
  go_wp2_with fail
  go_loopw [6, 12] (fun _ s12 wx => ∃ (i : Nat), s12 = .int .i64 i ∧ i ≤ n ∧ Hid ((if (F.drop i).any (fun C => emP C A == -1) = true then -1 else if F.any (fun C => emP C A == 0) = true then 0 else 1) = R) ∧ w1 = wx) (fun _ s12 _ => n - (intOf s12).toNat)
  case atStart => exact ⟨0, rfl, Nat.zero_le _, HR, rfl⟩
  case round =>
    clear HR
    obtain ⟨i, rfl, hi, HS, rfl⟩ := hrel
    have hw1 : wrap64 ((i : Int) + 1) = ((i + 1 : Nat) : Int) := by unfold wrap64; omega
    by_cases hlt : i < n
    · have hib : decide ((i : Int) < (n : Int)) = true := decide_eq_true (by omega)
      have hii : (i : Int) < (n : Int) := by omega
      obtain ⟨C, hx⟩ : ∃ x, F[i]? = some x := ⟨_, List.getElem?_eq_getElem (by rw [HN.out]; exact hlt)⟩
      obtain ⟨g, o, a1, c1, ea, x0, hil, hcc⟩ := HF.out i C hx
      subst ea
      rw [drop_consG hx, List.any_cons] at HS
      have HXM : Hid (C ∈ F) := List.mem_of_getElem? hx
      have c81 := hide (evalM_any w1 a1 c1 C aa ca A hil HA.out (HL.out C HXM.out).1 (by rw [HQ.out]; exact hlA) (HL.out C HXM.out).2)
      rw [HQ.out] at c81
      clear hx hil hcc
      obtain ⟨k, hk⟩ : ∃ k, C.length = k := ⟨_, rfl⟩
      rw [hk] at c81 x0
      clear hk
      clear HXM
      generalize emP C A = ev at *
      go_wp2_with fail
      refine c81.out.mono ?_
      rintro e wz ⟨rfl, hw⟩
      rw [hw]
      clear hw wz c81
      by_cases hev : ev = -1
      · have hevb : (ev == -1) = true := by simp [hev]
        rw [hevb, Bool.true_or, if_pos rfl] at HS
        clear hev
        go_wp2
        exact bodyPost_ret (v := .int .i8 (-1)) (by simp [results, Tryz.results83, go_sem]) rfl ⟨ret_intK HS.out, HE0.out⟩
      · have hevb : (ev == -1) = false := by simp [hev]
        rw [hevb, Bool.false_or] at HS
        clear hev
        go_wp2
        go_roundw
        case rel => exact ⟨i + 1, by go_num, by omega, HS, trivial⟩
        case measure => (simp [intOf]; try omega)
    · have hib : decide ((i : Int) < (n : Int)) = false := decide_eq_false (by omega)
      rw [List.drop_of_length_le (by rw [HN.out]; omega), List.any_nil, if_neg (by simp)] at HS
      have HR2 : Hid ((if (F.drop 0).any (fun C => emP C A == 0) = true then 0 else 1) = R) := HS.out
      clear HS hw1
      go_wp2_with fail
      go_loopw [8, 24] (fun _ s24 wx => ∃ (i : Nat), s24 = .int .i64 i ∧ i ≤ n ∧ Hid ((if (F.drop i).any (fun C => emP C A == 0) = true then 0 else 1) = R) ∧ w1 = wx) (fun _ s24 _ => n - (intOf s24).toNat)
      case atStart => exact ⟨0, rfl, Nat.zero_le _, HR2, rfl⟩
      case round =>
        clear HR2 hlt hib hi
        obtain ⟨i, rfl, hi, HS, rfl⟩ := hrel
        have hw1 : wrap64 ((i : Int) + 1) = ((i + 1 : Nat) : Int) := by unfold wrap64; omega
        by_cases hlt : i < n
        · have hib : decide ((i : Int) < (n : Int)) = true := decide_eq_true (by omega)
          have hii : (i : Int) < (n : Int) := by omega
          obtain ⟨C, hx⟩ : ∃ x, F[i]? = some x := ⟨_, List.getElem?_eq_getElem (by rw [HN.out]; exact hlt)⟩
          obtain ⟨g, o, a1, c1, ea, x0, hil, hcc⟩ := HF.out i C hx
          subst ea
          rw [drop_consG hx, List.any_cons] at HS
          have HXM : Hid (C ∈ F) := List.mem_of_getElem? hx
          have c81 := hide (evalM_any w1 a1 c1 C aa ca A hil HA.out (HL.out C HXM.out).1 (by rw [HQ.out]; exact hlA) (HL.out C HXM.out).2)
          rw [HQ.out] at c81
          clear hx hil hcc
          obtain ⟨k, hk⟩ : ∃ k, C.length = k := ⟨_, rfl⟩
          rw [hk] at c81 x0
          clear hk
          clear HXM
          generalize emP C A = ev at *
          go_wp2_with fail
          refine c81.out.mono ?_
          rintro e wz ⟨rfl, hw⟩
          rw [hw]
          clear hw wz c81
          by_cases hev : ev = 0
          · have hevb : (ev == 0) = true := by simp [hev]
            rw [hevb, Bool.true_or, if_pos rfl] at HS
            clear hev
            go_wp2
            exact bodyPost_ret (v := .int .i8 0) (by simp [results, Tryz.results83, go_sem]) rfl ⟨ret_intK HS.out, HE0.out⟩
          · have hevb : (ev == 0) = false := by simp [hev]
            rw [hevb, Bool.false_or] at HS
            clear hev
            go_wp2
            go_roundw
            case rel => exact ⟨i + 1, by go_num, by omega, HS, trivial⟩
            case measure => (simp [intOf]; try omega)
        · have hib : decide ((i : Int) < (n : Int)) = false := decide_eq_false (by omega)
          rw [List.drop_of_length_le (by rw [HN.out]; omega), List.any_nil, if_neg (by simp)] at HS
          go_wp2
          exact bodyPost_ret (v := .int .i8 1) (by simp [results, Tryz.results83, go_sem]) rfl ⟨ret_intK HS.out, HE0.out⟩
end Go.Proofs.Qxb6500773aGreat
