import Derived.Test.Qxb6500773aGreatZ5
namespace Go.Proofs.Qxb6500773aGreat
open Go.RowKit

theorem nz_zero (n : Nat) : nzP (List.replicate n 0) = 0 := by
  unfold nzP
  simp
theorem VOk.zero {k : Int} {V : List Int} (h : VOk k V) : VOk 0 (List.replicate V.length 0) := by
  refine ⟨fun x hx => ?_, by simp; exact h.len, (nz_zero _).symm, fun x hx => List.eq_of_mem_replicate (List.mem_of_getElem? hx)⟩
  rw [List.eq_of_mem_replicate hx]; omega
/-- all are undefined from the start up to i -/
theorem clr_step {V : List Int} {i : Nat} (h : i < V.length) : (List.replicate i 0 ++ V.drop i).set i 0 = List.replicate (i + 1) 0 ++ V.drop (i + 1) := by
  obtain ⟨x, hx⟩ : ∃ x, V[i]? = some x := ⟨_, List.getElem?_eq_getElem h⟩
  rw [drop_consG hx, List.set_append, List.length_replicate, if_neg (Nat.lt_irrefl _), Nat.sub_self, List.set_cons_zero, List.replicate_succ']
  simp
set_option linter.unusedSimpArgs false in
set_option maxRecDepth 100000 in
set_option maxHeartbeats 8000000 in
/-- cnf.Assignment.Clear -/
theorem clear_any (w : World) (B b : Nat) (va : Value) (k : Int) (V : List Int) (h : AT w B b va k V) (hok : VOk k V) :
    Calls Tryz.prog 26 #[.pointer (some ⟨b, 0, none⟩)] w (AgPost w B b va (if k = 0 then k else 0) (if k = 0 then V else List.replicate V.length 0)) := by
  have c1 := h.c1
  by_cases hk : k = 0
  · rw [if_pos hk, if_pos hk]
    have HP := hide (show AgPost w B b va k V (.returned (.tuple #[])) w from ⟨rfl, Ex.refl _ _, va, h, fun j hj => .inl hj⟩)
    subst hk
    clear h hok
    go_enter Tryz.func26, Tryz.ntmps26
    go_wp2_with (first | with_reducible refine bodyPost_ret (v := .tuple #[]) ?hr ?hd ?hp | with_reducible refine bodyPost_nrm (v := .tuple #[]) ?hr ?hd ?hp)
    case hr => exact results_nil Tryz.results26
    case hd => rfl
    case hp => exact HP.out
  · rw [if_neg hk, if_neg hk]
    have hkb : (k == 0) = false := by simpa using hk
    have c0 := h.c0
    have hln := hok.len
    obtain ⟨a, c, rfl⟩ := own_form h.row
    obtain ⟨n, hn⟩ : ∃ n, V.length = n := ⟨_, rfl⟩
    rw [hn] at c0 hln h ⊢
    have HA0 := hide h
    have HNL := hide hn
    clear h hok hn hk
    go_enter Tryz.func26, Tryz.ntmps26
    go_upto_region 2 with fail
    clear c0 c1 hkb
    go_wp2_with fail
    go_loopw [13] (fun s13 wr => ∃ (i : Nat), s13 = .int .i64 i ∧ i ≤ n ∧ Hid (AT wr B b (.slice a n c) k (List.replicate i 0 ++ V.drop i)) ∧ Hid (Ex (fun j => j = b ∨ (Value.slice a n c).ownBlock = some j) w wr)) (fun s13 _ => n - (intOf s13).toNat)
    case atStart => exact ⟨0, rfl, Nat.zero_le _, HA0, Ex.refl _ _⟩
    case round =>
      clear HA0
      obtain ⟨i, rfl, hin, HA, HE⟩ := hrel
      have c0 := HA.out.c0
      have hl2 : (List.replicate i (0 : Int) ++ V.drop i).length = n := by rw [List.length_append, List.length_replicate, List.length_drop, HNL.out]; omega
      by_cases hi : i < n
      · have hib : decide ((i : Int) < (n : Int)) = true := decide_eq_true (by omega)
        have hii : (i : Int) < (n : Int) := by omega
        obtain ⟨x, hx⟩ : ∃ x, (List.replicate i (0 : Int) ++ V.drop i)[i]? = some x := ⟨_, List.getElem?_eq_getElem (by omega)⟩
        obtain ⟨g, c', e1, hc, _⟩ := row_cell HA.out.row (i := i) (u := .int .i8 x) (by rw [List.getElem?_map, hx]; rfl)
        injection e1 with e1 e2 e3
        subst e1
        have hrf : ∀ j, wr.frozen? ⟨g, j, none⟩ = false := fun j => by have := HA.out.row; rw [hl2] at this; exact this.frozenAt j
        have HA2 := hide (HA.out.put hl2 i 0)
        rw [clr_step (by rw [HNL.out]; exact hi)] at HA2
        have HE2 : Hid (Ex (fun j => j = b ∨ (Value.slice (some ⟨g, 0, none⟩) n c).ownBlock = some j) w (wr.setCell ⟨g, i, none⟩ (.int .i8 0))) := HE.out.set (p := g) (.inr rfl) _
        clear e2 e3 HA HE hx hl2
        go_wp2
        go_roundw
        case rel => exact ⟨i + 1, by go_num, by omega, HA2, HE2⟩
        case measure => (simp [intOf]; try omega)
      · obtain rfl : i = n := by omega
        have hib : decide ((i : Int) < (i : Int)) = false := decide_eq_false (by omega)
        have c1 := HA.out.c1
        have bf := HA.out.fz
        have hA2 := HA.out.setK 0
        rw [List.drop_of_length_le (by rw [HNL.out]; exact Nat.le_refl _), List.append_nil] at hA2
        have HP := hide (show AgPost w B b (.slice a i c) 0 (List.replicate i 0) (.returned (.tuple #[])) (wr.setCell ⟨b, 1, none⟩ (.int .i64 0)) from ⟨rfl, HE.out.set (p := b) (.inl rfl) _, _, hA2, fun j hj => .inl hj⟩)
        clear hA2 HA HE hl2
        go_wp2_with (first | with_reducible refine bodyPost_ret (v := .tuple #[]) ?hr ?hd ?hp | with_reducible refine bodyPost_nrm (v := .tuple #[]) ?hr ?hd ?hp)
        case hr => exact results_nil Tryz.results26
        case hd => rfl
        case hp => exact HP.out
/-- is every one of the first m variables defined -/
def totP (V : List Int) : Nat → Nat → Bool
  | _, 0 => true
  | i, m + 1 => if V.getD i 0 = 0 then false else totP V (i + 1) m
def totalP (V : List Int) (m : Int) : Bool := if ((V.length - 1 : Nat) : Int) < m then false else totP V 1 m.toNat
set_option linter.unusedSimpArgs false in
set_option maxRecDepth 100000 in
set_option maxHeartbeats 8000000 in
/-- cnf.Assignment.Total -/
theorem total_any (w : World) (B b : Nat) (va : Value) (k : Int) (V : List Int) (h : AT w B b va k V) (hln : V.length ≤ 16777216) (m : Int) (hm : -9223372036854775808 ≤ m ∧ m ≤ 9223372036854775807) :
    Calls Tryz.prog 58 #[.pointer (some ⟨b, 0, none⟩), .int .i64 m] w fun e w' => e = .returned (.bool (totalP V m)) ∧ w' = w := by
  have c0 := h.c0
  have cN := numVarsA_any w B b va k V h hln
  obtain ⟨a, c, rfl⟩ := own_form h.row
  obtain ⟨n, hn⟩ : ∃ n, V.length = n := ⟨_, rfl⟩
  have HTP : Hid (totalP V m = if ((n - 1 : Nat) : Int) < m then false else totP V 1 m.toNat) := by show _ = _; unfold totalP; rw [hn]
  rw [hn] at c0 hln cN h
  have HA := hide h
  have HNL := hide hn
  obtain ⟨R, hR⟩ : ∃ R, totalP V m = R := ⟨_, rfl⟩
  rw [hR] at HTP ⊢
  clear h hn hR
  by_cases hgt : ((n - 1 : Nat) : Int) < m
  · have d1 : decide (((n - 1 : Nat) : Int) < m) = true := decide_eq_true hgt
    rw [if_pos hgt] at HTP
    go_enter Tryz.func58, Tryz.ntmps58
    go_wp2_with fail
    refine cN.mono ?_
    rintro e w' ⟨rfl, hw'⟩
    rw [hw']
    clear hw' w'
    go_wp2
    go_ret
    exact ⟨ret_bool HTP.out.symm, rfl⟩
  · have d1 : decide (((n - 1 : Nat) : Int) < m) = false := decide_eq_false hgt
    rw [if_neg hgt] at HTP
    go_enter Tryz.func58, Tryz.ntmps58
    go_wp2_with fail
    refine cN.mono ?_
    rintro e w' ⟨rfl, hw'⟩
    rw [hw']
    clear hw' w' cN
    generalize hq : ((n - 1 : Nat) : Int) = nn at *
    go_wp2_with fail
    go_loopw [5] (fun s5 wr => ∃ (i : Nat), s5 = .int .i64 i ∧ 1 ≤ i ∧ (i : Int) ≤ 16777217 ∧ Hid (totP V i (m.toNat + 1 - i) = R) ∧ wr = w) (fun s5 _ => m.toNat + 1 - (intOf s5).toNat)
    case atStart => exact ⟨1, rfl, by omega, by omega, (by show _ = _; rw [Nat.add_sub_cancel]; exact HTP.out.symm), rfl⟩
    case round =>
      obtain ⟨i, rfl, hi1, hi2, HS, rfl⟩ := hrel
      by_cases hi : (i : Int) ≤ m
      · have hib : decide ((i : Int) ≤ m) = true := decide_eq_true hi
        have hin : i < n := by omega
        have hii : (i : Int) < (n : Int) := by omega
        obtain ⟨x, hx⟩ : ∃ x, V[i]? = some x := ⟨_, List.getElem?_eq_getElem (by rw [HNL.out]; exact hin)⟩
        obtain ⟨g, c', e1, hc, _⟩ := row_cell HA.out.row (i := i) (u := .int .i8 x) (by rw [List.getElem?_map, hx]; rfl)
        injection e1 with e1 e2 e3
        subst e1
        rw [show m.toNat + 1 - i = (m.toNat + 1 - (i + 1)) + 1 by omega, totP, List.getD_eq_getElem?_getD, hx] at HS
        simp only [Option.getD_some] at HS
        clear e2 e3 hx
        by_cases h0 : x = 0
        · subst h0
          rw [if_pos rfl] at HS
          go_wp2
          go_ret
          exact ⟨ret_bool HS.out, rfl⟩
        · have hb0 : (x == 0) = false := by simpa using h0
          rw [if_neg h0] at HS
          clear h0
          go_wp2
          go_roundw
          case rel => exact ⟨i + 1, by go_num, by omega, by omega, HS, trivial⟩
          case measure => (simp [intOf]; try omega)
      · have hib : decide ((i : Int) ≤ m) = false := decide_eq_false hi
        rw [show m.toNat + 1 - i = 0 by omega, totP] at HS
        go_wp2
        go_ret
        exact ⟨ret_bool HS.out, rfl⟩
end Go.Proofs.Qxb6500773aGreat
