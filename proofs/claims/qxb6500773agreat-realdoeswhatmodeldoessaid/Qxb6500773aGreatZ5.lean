import Derived.Test.Qxb6500773aGreatZ4
namespace Go.Proofs.Qxb6500773aGreat
open Go.RowKit

/-! ### Loops over an assignment and a clause -/
def setsP : List Int → List Int → List Int
  | V, [] => V
  | V, l :: C => setsP (setP V l) C
def setsN : List Int → Int → List Int → Int
  | _, k, [] => k
  | V, k, l :: C => setsN (setP V l) (setN V k l) C
theorem drop_consG {α : Type} {l : List α} {i : Nat} {x : α} (h : l[i]? = some x) : l.drop i = x :: l.drop (i + 1) := by
  obtain ⟨hi, e⟩ := List.getElem?_eq_some_iff.1 h
  rw [List.drop_eq_getElem_cons hi, e]
set_option linter.unusedSimpArgs false in
set_option maxRecDepth 100000 in
set_option maxHeartbeats 8000000 in
/-- cnf.Assignment.SetAll -/
theorem setAll_any (w : World) (B b : Nat) (va : Value) (k : Int) (V : List Int) (h : AT w B b va k V) (hok : VOk k V) (hB : B ≤ w.heap.size) (a : Option Addr) (c : Nat) (C : List Int) (hc : CL w a C) (hC : ∀ x ∈ C, LitOk x) (hl : C.length ≤ 1000000000)
    (hap : ∀ g off, a = some ⟨g, off, none⟩ → g ≠ b ∧ va.ownBlock ≠ some g ∧ g < w.heap.size) :
    Calls Tryz.prog 57 #[.pointer (some ⟨b, 0, none⟩), .slice a C.length c] w (AgPost w B b va (setsN V k C) (setsP V C)) := by
  have HC := hide hc
  have HAP := hide hap
  have HLO := hide hC
  obtain ⟨n, hn⟩ : ∃ n, C.length = n := ⟨_, rfl⟩
  have HNL := hide hn
  rw [hn] at hl ⊢
  have HA0 := hide h
  have HOK := hide hok
  have HBB := hide hB
  clear hc hap hC hn h hok hB
  obtain ⟨K2, hK2⟩ : ∃ q, setsN V k C = q := ⟨_, rfl⟩
  obtain ⟨V2, hV2⟩ : ∃ q, setsP V C = q := ⟨_, rfl⟩
  have HK2 := hide hK2
  have HV2 := hide hV2
  rw [hK2, hV2]
  clear hK2 hV2
  go_enter Tryz.func57, Tryz.ntmps57
  go_wp2_with fail
  go_loopw [8] (fun s8 wr => ∃ (i : Nat) (vb : Value) (ki : Int) (Vi : List Int), s8 = .int .i64 i ∧ i ≤ n ∧ Hid (AT wr B b vb ki Vi) ∧ Hid (VOk ki Vi) ∧ Hid (Ex (fun j => j = b ∨ va.ownBlock = some j) w wr) ∧ Hid (∀ j, vb.ownBlock = some j → va.ownBlock = some j ∨ w.heap.size ≤ j) ∧ Hid (setsN Vi ki (C.drop i) = K2 ∧ setsP Vi (C.drop i) = V2)) (fun s8 _ => n - (intOf s8).toNat)
  case atStart => exact ⟨0, va, k, V, rfl, Nat.zero_le _, HA0, HOK, Ex.refl _ _, fun j hj => .inl hj, ⟨HK2.out, HV2.out⟩⟩
  case round =>
    clear HA0 HOK
    obtain ⟨i, vb, ki, Vi, rfl, hin, HA, HO, HE, HV, HS⟩ := hrel
    by_cases hi : i < n
    · have hib : decide ((i : Int) < (n : Int)) = true := decide_eq_true (by omega)
      have hii : (i : Int) < (n : Int) := by omega
      obtain ⟨l, hl1⟩ : ∃ x, C[i]? = some x := ⟨_, List.getElem?_eq_getElem (by rw [HNL.out]; exact hi)⟩
      obtain ⟨g, off, rfl, hx⟩ := HC.out i l hl1
      obtain ⟨p1, p2, p3⟩ := HAP.out g off rfl
      have x0 := HE.out.cell (fun z => by rcases z with z | z; exact p1 z; exact p2 z) hx
      have hlo := HLO.out l (List.mem_of_getElem? hl1)
      have HST := hide (setA_any wr B b vb ki Vi HA.out HO.out (Nat.le_trans HBB.out HE.out.size) l hlo)
      have HO2 := hide (set_ok HO.out hlo)
      rw [drop_consG hl1, setsN, setsP] at HS
      clear hx hl1 p1 p2 p3 hlo
      go_wp2_with fail
      refine HST.out.mono ?_
      rintro e w2 ⟨rfl, hex2, vb2, hat2, hvb2⟩
      have HA2 := hide hat2
      have HE2 : Hid (Ex (fun j => j = b ∨ va.ownBlock = some j) w w2) := HE.out.trans2 hex2 (fun j hj => by
        rcases hj with z | z
        · exact .inl (.inl z)
        · rcases HV.out j z with q | q
          · exact .inl (.inr q)
          · exact .inr q)
      have HV2' : Hid (∀ j, vb2.ownBlock = some j → va.ownBlock = some j ∨ w.heap.size ≤ j) := fun j hj => by
        rcases hvb2 j hj with z | z
        · exact HV.out j z
        · have := HE.out.size; exact .inr (by omega)
      clear hex2 hat2 hvb2 HST HA HO HV HE x0
      go_wp2
      go_roundw
      case rel => exact ⟨i + 1, vb2, _, _, by go_num, by omega, HA2, HO2, HE2, HV2', HS⟩
      case measure => (simp [intOf]; try omega)
    · obtain rfl : i = n := by omega
      have hib : decide ((i : Int) < (i : Int)) = false := decide_eq_false (by omega)
      rw [List.drop_of_length_le (by rw [HNL.out]; exact Nat.le_refl _), setsN, setsP] at HS
      have HP : Hid (AgPost w B b va K2 V2 (.returned (.tuple #[])) wr) := ⟨rfl, HE.out, vb, by rw [← HS.out.1, ← HS.out.2]; exact HA.out, HV.out⟩
      clear HA HO HE HV HS
      go_wp2_with (first | with_reducible refine bodyPost_ret (v := .tuple #[]) ?hr ?hd ?hp | with_reducible refine bodyPost_nrm (v := .tuple #[]) ?hr ?hd ?hp)
      case hr => exact results_nil Tryz.results57
      case hd => rfl
      case hp => exact HP.out
/-- the value of a clause -/
def evalP (V : List Int) : List Int → Int → Int
  | [], s => s
  | l :: C, s => if lvP V l = 1 then 1 else if lvP V l = 0 then evalP V C 0 else evalP V C s
set_option linter.unusedSimpArgs false in
set_option maxRecDepth 100000 in
set_option maxHeartbeats 8000000 in
/-- cnf.Clause.Eval -/
theorem eval_any (w : World) (B b : Nat) (va : Value) (k : Int) (V : List Int) (h : AT w B b va k V) (hr : ∀ x ∈ V, -1 ≤ x ∧ x ≤ 1) (a : Option Addr) (c : Nat) (C : List Int) (hc : CL w a C) (hC : ∀ x ∈ C, LitOk x) (hl : C.length ≤ 1000000000) :
    Calls Tryz.prog 17 #[.slice a C.length c, .pointer (some ⟨b, 0, none⟩)] w fun e w' => e = .returned (.int .i8 (evalP V C (-1))) ∧ w' = w := by
  have HC := hide hc
  have HLO := hide hC
  have HLT := hide (fun l hl => litA_any w B b va k V h hr l hl)
  obtain ⟨n, hn⟩ : ∃ n, C.length = n := ⟨_, rfl⟩
  have HNL := hide hn
  rw [hn] at hl ⊢
  clear hc hC hn h
  go_enter Tryz.func17, Tryz.ntmps17
  go_wp2_with fail
  go_loopw [5, 11] (fun s5 s11 wr => ∃ (i : Nat) (s : Int), s5 = .int .i8 s ∧ s11 = .int .i64 i ∧ i ≤ n ∧ Hid (evalP V (C.drop i) s = evalP V C (-1)) ∧ wr = w) (fun _ s11 _ => n - (intOf s11).toNat)
  case atStart => exact ⟨0, -1, rfl, rfl, Nat.zero_le _, rfl, rfl⟩
  case round =>
    obtain ⟨i, s, rfl, rfl, hin, HS, rfl⟩ := hrel
    by_cases hi : i < n
    · have hib : decide ((i : Int) < (n : Int)) = true := decide_eq_true (by omega)
      have hii : (i : Int) < (n : Int) := by omega
      obtain ⟨l, hl1⟩ : ∃ x, C[i]? = some x := ⟨_, List.getElem?_eq_getElem (by rw [HNL.out]; exact hi)⟩
      obtain ⟨g, off, rfl, x0⟩ := HC.out i l hl1
      have hlo := HLO.out l (List.mem_of_getElem? hl1)
      unfold LitOk at hlo
      have HCA := hide (HLT.out l (by omega))
      rw [drop_consG hl1, evalP] at HS
      generalize lvP V l = x at *
      clear hl1 hlo
      by_cases h1 : x = 1
      · subst h1
        rw [if_pos rfl] at HS
        go_wp2_with fail
        refine HCA.out.mono ?_
        rintro e w' ⟨rfl, hw'⟩
        rw [hw']
        clear hw' w' HCA
        go_wp2
        go_ret
        exact ⟨ret_int HS.out, rfl⟩
      · have hb1 : (x == 1) = false := by simpa using h1
        rw [if_neg h1] at HS
        by_cases h0 : x = 0
        · subst h0
          rw [if_pos rfl] at HS
          clear h1 hb1
          go_wp2_with fail
          refine HCA.out.mono ?_
          rintro e w' ⟨rfl, hw'⟩
          rw [hw']
          clear hw' w' HCA
          go_wp2
          go_roundw
          case rel => exact ⟨i + 1, 0, rfl, by go_num, by omega, HS, trivial⟩
          case measure => (simp [intOf]; try omega)
        · have hb0 : (x == 0) = false := by simpa using h0
          rw [if_neg h0] at HS
          clear h1 h0
          go_wp2_with fail
          refine HCA.out.mono ?_
          rintro e w' ⟨rfl, hw'⟩
          rw [hw']
          clear hw' w' HCA
          go_wp2
          go_roundw
          case rel => exact ⟨i + 1, s, rfl, by go_num, by omega, HS, trivial⟩
          case measure => (simp [intOf]; try omega)
    · obtain rfl : i = n := by omega
      have hib : decide ((i : Int) < (i : Int)) = false := decide_eq_false (by omega)
      rw [List.drop_of_length_le (by rw [HNL.out]; exact Nat.le_refl _), evalP] at HS
      go_wp2
      go_ret
      exact ⟨ret_int HS.out, rfl⟩
end Go.Proofs.Qxb6500773aGreat
