import Derived.Test.Qxb6500773aGreatZD
namespace Go.Proofs.Qxb6500773aGreat
open Go.RowKit

def NwPost (w : World) (V : List Int) (e : Ending) (w' : World) : Prop := ∃ b va, e = .returned (.pointer (some ⟨b, 0, none⟩)) ∧ AT w' w.heap.size b va 0 V ∧ w.heap.size ≤ b ∧ Below w.heap.size w w'
theorem at_new (w : World) : AT (w.alloc (.cells #[.slice none 0 0, .int .i64 0] 76)) w.heap.size w.heap.size (.slice none 0 0) 0 [] :=
  ⟨by simp [go_sem], by simp [go_sem], fun j => by simp [go_sem], World.ownsRow_nil _ _ _ _, by simp [Value.ownBlock]⟩
set_option linter.unusedSimpArgs false in
set_option maxRecDepth 100000 in
set_option maxHeartbeats 4000000 in
/-- cnf.NewAssignment -/
theorem newAssignment_any (w : World) (m : Int) (hm : -9223372036854775808 ≤ m ∧ m ≤ 9223372036854775807) : Calls Tryz.prog 22 #[.int .i64 m] w (NwPost w (growP [] m)) := by
  have HC := hide (growA_any _ w.heap.size w.heap.size (.slice none 0 0) 0 [] (at_new w) (by simp) (by simp) m hm)
  go_enter Tryz.func22, Tryz.ntmps22
  go_wp2_with fail
  refine HC.out.mono ?_
  rintro e w' ⟨rfl, e2, va', hat, ho⟩
  have HP : Hid (NwPost w (growP [] m) (.returned (.pointer (some ⟨w.heap.size, 0, none⟩))) w') := ⟨w.heap.size, va', rfl, hat, Nat.le_refl _, by
    refine ((Ex.refl (fun j => j = w.heap.size) w).alloc _ |>.trans (e2.mono (fun k hk => ?_))).below (Nat.le_refl _) (fun k hk hz => by omega)
    rcases hk with z | z
    · exact z
    · simp [Value.ownBlock] at z⟩
  clear e2 hat ho HC
  go_wp2
  go_ret
  exact HP.out
/-- a clause's status -/
def statP (V : List Int) : List Int → Int → Bool → Int × Int
  | [], fr, op => if op = true then (0, 0) else if fr = 0 then (2, 0) else (3, fr)
  | l :: C, fr, op => if lvP V l = 1 then (1, 0) else if lvP V l = -1 ∨ l = fr then statP V C fr op else if fr = 0 then statP V C l op else statP V C fr true
set_option linter.unusedSimpArgs false in
set_option maxRecDepth 100000 in
set_option maxHeartbeats 8000000 in
/-- cnf.Clause.Status -/
theorem status_any (w : World) (B b : Nat) (va : Value) (k : Int) (V : List Int) (h : AT w B b va k V) (hr : ∀ x ∈ V, -1 ≤ x ∧ x ≤ 1) (a : Option Addr) (c : Nat) (C : List Int) (hc : CL w a C) (hC : ∀ x ∈ C, LitOk x) (hl : C.length ≤ 1000000000) :
    Calls Tryz.prog 110 #[.slice a C.length c, .pointer (some ⟨b, 0, none⟩)] w fun e w' => e = .returned (.tuple #[.int .i64 (statP V C 0 false).1, .int .i32 (statP V C 0 false).2]) ∧ w' = w := by
  have HC := hide hc
  have HLO := hide hC
  have HLT := hide (fun l hl => litA_any w B b va k V h hr l hl)
  obtain ⟨n, hn⟩ : ∃ n, C.length = n := ⟨_, rfl⟩
  have HNL := hide hn
  rw [hn] at hl ⊢
  obtain ⟨R, hR⟩ : ∃ R, statP V C 0 false = R := ⟨_, rfl⟩
  have HR := hide hR
  rw [hR]
  clear hc hC hn h hR
  go_enter Tryz.func110, Tryz.ntmps110
  go_wp2_with fail
  go_loopw [6, 7, 13] (fun s6 s7 s13 wr => ∃ (i : Nat) (fr : Int) (op : Bool), s6 = .int .i32 fr ∧ s7 = .bool op ∧ s13 = .int .i64 i ∧ i ≤ n ∧ Hid (statP V (C.drop i) fr op = R) ∧ wr = w) (fun _ _ s13 _ => n - (intOf s13).toNat)
  case atStart => exact ⟨0, 0, false, rfl, rfl, rfl, Nat.zero_le _, HR, rfl⟩
  case round =>
    obtain ⟨i, fr, op, rfl, rfl, rfl, hin, HS, rfl⟩ := hrel
    by_cases hi : i < n
    · have hib : decide ((i : Int) < (n : Int)) = true := decide_eq_true (by omega)
      have hii : (i : Int) < (n : Int) := by omega
      obtain ⟨l, hl1⟩ : ∃ x, C[i]? = some x := ⟨_, List.getElem?_eq_getElem (by rw [HNL.out]; exact hi)⟩
      obtain ⟨g, off, rfl, x0⟩ := HC.out i l hl1
      have hlo := HLO.out l (List.mem_of_getElem? hl1)
      unfold LitOk at hlo
      have HCA := hide (HLT.out l (by omega))
      rw [drop_consG hl1, statP] at HS
      generalize lvP V l = x at *
      clear hl1 hlo
      by_cases h1 : x = 1
      · subst h1
        rw [if_pos rfl] at HS
        go_wp2_with fail
        refine HCA.out.mono ?_
        rintro e w' ⟨rfl, hw'⟩
        rw [hw']
        clear hw' w' HCA
        go_wp2_with (with_reducible refine bodyPost_ret (v := .tuple #[.int .i64 1, .int .i32 0]) ?hr ?hd ?hp)
        case hr => simp [results, Tryz.results110, go_sem]
        case hd => rfl
        case hp => rw [← HS.out]; exact ⟨rfl, rfl⟩
      · have hb1 : (x == 1) = false := by simpa using h1
        rw [if_neg h1] at HS
        by_cases hm : x = -1
        · subst hm
          rw [if_pos (.inl rfl)] at HS
          clear h1 hb1
          go_wp2_with fail
          refine HCA.out.mono ?_
          rintro e w' ⟨rfl, hw'⟩
          rw [hw']
          clear hw' w' HCA
          go_wp2
          go_roundw
          case rel => exact ⟨i + 1, fr, op, rfl, rfl, by go_num, by omega, HS, trivial⟩
          case measure => (simp [intOf]; try omega)
        · have hbm : (x == -1) = false := by simpa using hm
          by_cases hf : l = fr
          · subst hf
            rw [if_pos (.inr rfl)] at HS
            have hbl : (l == l) = true := by simp
            clear h1 hm
            go_wp2_with fail
            refine HCA.out.mono ?_
            rintro e w' ⟨rfl, hw'⟩
            rw [hw']
            clear hw' w' HCA
            go_wp2
            go_roundw
            case rel => exact ⟨i + 1, l, op, rfl, rfl, by go_num, by omega, HS, trivial⟩
            case measure => (simp [intOf]; try omega)
          · have hbl : (l == fr) = false := by simpa using hf
            rw [if_neg (fun z => z.elim hm hf)] at HS
            by_cases h0 : fr = 0
            · subst h0
              rw [if_pos rfl] at HS
              clear h1 hm hf
              go_wp2_with fail
              refine HCA.out.mono ?_
              rintro e w' ⟨rfl, hw'⟩
              rw [hw']
              clear hw' w' HCA
              go_wp2
              go_roundw
              case rel => exact ⟨i + 1, l, op, rfl, rfl, by go_num, by omega, HS, trivial⟩
              case measure => (simp [intOf]; try omega)
            · have hb0 : (fr == 0) = false := by simpa using h0
              rw [if_neg h0] at HS
              clear h1 hm hf h0
              go_wp2_with fail
              refine HCA.out.mono ?_
              rintro e w' ⟨rfl, hw'⟩
              rw [hw']
              clear hw' w' HCA
              go_wp2
              go_roundw
              case rel => exact ⟨i + 1, fr, true, rfl, rfl, by go_num, by omega, HS, trivial⟩
              case measure => (simp [intOf]; try omega)
    · obtain rfl : i = n := by omega
      have hib : decide ((i : Int) < (i : Int)) = false := decide_eq_false (by omega)
      rw [List.drop_of_length_le (by rw [HNL.out]; exact Nat.le_refl _), statP] at HS
      have HS2 := hide HS.out.symm
      clear HS
      cases op
      · by_cases h0 : fr = 0
        · subst h0
          go_wp2_with (with_reducible refine bodyPost_ret (v := .tuple #[.int .i64 2, .int .i32 0]) ?hr ?hd ?hp)
          case hr => simp [results, Tryz.results110, go_sem]
          case hd => rfl
          case hp => rw [HS2.out]; exact ⟨rfl, rfl⟩
        · have hb0 : (fr == 0) = false := by simpa using h0
          have hR2 : Hid (R = (3, fr)) := by show _ = _; rw [HS2.out]; simp [h0]
          clear h0 HS2
          go_wp2_with (with_reducible refine bodyPost_ret (v := .tuple #[.int .i64 3, .int .i32 fr]) ?hr ?hd ?hp)
          case hr => simp [results, Tryz.results110, go_sem]
          case hd => rfl
          case hp => rw [hR2.out]; exact ⟨rfl, rfl⟩
      · go_wp2_with (with_reducible refine bodyPost_ret (v := .tuple #[.int .i64 0, .int .i32 0]) ?hr ?hd ?hp)
        case hr => simp [results, Tryz.results110, go_sem]
        case hd => rfl
        case hp => rw [HS2.out]; exact ⟨rfl, rfl⟩
end Go.Proofs.Qxb6500773aGreat
