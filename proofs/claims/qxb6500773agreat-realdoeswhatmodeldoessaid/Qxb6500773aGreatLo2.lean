import Derived.Test.Qxb6500773aGreatLo1
import Derived.Test.Qxb6500773aGreatPr5
import Derived.Deep.CutBlock
namespace Go.Proofs.Qxb6500773aGreat
set_option maxRecDepth 100000
open Go.RowKit

/-! ### append with a named slice type behind -/
theorem append_types {P : Program} {w : World} (t tx ty e e' : TypeId) (ht : P.underlying t = some (.slice e)) (htx : P.underlying tx = some (.slice e')) (b1 : Option Addr) (n1 c1 : Nat) (x : Value) :
    (Builtin.append_ #[t, tx] ty #[.slice b1 n1 c1, x]).run P w = (Builtin.append_ #[t, t] ty #[.slice b1 n1 c1, x]).run P w := by
  simp [Builtin.append_, run_underlying ht, run_underlying htx]
theorem wpList_append_lies2 {P : Program} {w : World} {ops : Array Oper} {rest : List Oper} {o : Oper} {a : Act} {Q : Exit → Act → World → Prop} (hgd : o.guard = none) (s x : Operand) (t tx : TypeId)
    (ho : o.op = .call { callee := .builtin .append, args := #[s, x], argTypes := #[t, tx] }) (e' : TypeId) (htx : P.underlying tx = some (.slice e'))
    (base : Nat) (e : TypeId) (i : TypeInfo) (z : Value) (size bytes : Nat) (ht : P.underlying t = some (.slice e)) (hi : P.info? e = some i) (hz : i.zero = some z)
    (hsize : i.size = size) (hby : i.bytes = bytes) (hzs : z.cells.size = size) (hsz : 0 < size)
    (v : Value) (n : Nat) (xs : List Value) (hs : a.eval s = v) (hown : w.ownsRow base e size v n xs)
    (ad : Addr) (m c : Nat) (news : List Value) (hx : a.eval x = .slice (some ad) m c) (hl : news.length = m * size) (hnews : ∀ j u, news[j]? = some u → w.cell? (ad.add j) = some u) (h1 : ∀ u ∈ news, u.oneCell' = true)
    (hm : 0 < m) (h63 : n + m ≤ maxLen) (hbytes : (n + m) * bytes ≤ 140737488355328) (hbase : base ≤ w.heap.size) (H : Nat) (hH : w.heap.size = H)
    (h : ∀ g cap w', w'.ownsRow base e size (.slice (some ⟨g, 0, none⟩) (n + m) cap) (n + m) (xs ++ news) → w.grownBy w' v.ownBlock → (v.ownBlock = some g ∨ g = H) → g < w'.heap.size → wpList P ops Q rest (a.put o.dst (.slice (some ⟨g, 0, none⟩) (n + m) cap)) w') : wpList P ops Q (o :: rest) a w :=
  wpList_plain hgd fun K hK => by
    obtain ⟨g, cap, w', hr, h2, h3, h4, h5⟩ := run_append_lies (P := P) w t o.type base e i z size bytes ht hi hz hsize hby hzs hsz v n xs hown ad m c news hl hnews h1 hm h63 hbytes hbase H hH
    obtain ⟨b1, c1, rfl⟩ := own_form hown
    rw [← append_types t tx o.type e e' ht htx] at hr
    unfold Oper.wp execOp
    simp only [ho, resolve, invoke, builtin, Sem.run_bind, Sem.run_pure, Result.andThen_ok, List.map_toArray, List.map_cons, List.map_nil, hs, hx, hr]
    exact hK _ _ (h g cap w' h2 h3 h4 h5)
def I32 (x : Int) : Prop := -2147483648 ≤ x ∧ x ≤ 2147483647
/-- cnf.Clause.Check, plain. -/
def chkP : List Int → Int
  | [] => 0
  | l :: C => if l < 2 then 1 else if validP l = true then chkP C else 2
set_option linter.unusedSimpArgs false in
set_option maxRecDepth 100000 in
set_option maxHeartbeats 4000000 in
/-- cnf.Clause.Check -/
theorem check_any (w : World) (a : Option Addr) (c : Nat) (C : List Int) (h : CL w a C) (hr : ∀ x ∈ C, I32 x) (hl : C.length ≤ 1000000000) :
    Calls Tryz.prog 148 #[.slice a C.length c] w fun e w' => e = .returned (.int .i64 (chkP C)) ∧ w' = w := by
  have HC := hide h
  have HR := hide hr
  obtain ⟨R, hR⟩ : ∃ R, chkP C = R := ⟨_, rfl⟩
  rw [hR]
  have HRE := hide hR
  clear h hr hR
  go_enter Tryz.func148, Tryz.ntmps148
  go_wp2
  go_loopw [4, 7] (fun _ s7 wx => wx = w ∧ ∃ (i : Nat), s7 = .int .i64 i ∧ i ≤ C.length ∧ Hid (chkP (C.drop i) = R)) (fun _ s7 _ => C.length - (intOf s7).toNat)
  case atStart => exact ⟨rfl, 0, rfl, Nat.zero_le _, HRE⟩
  case round =>
    obtain ⟨rfl, i, rfl, hi, HD⟩ := hrel
    by_cases hlt : i < C.length
    · obtain ⟨x, hx⟩ : ∃ x, C[i]? = some x := ⟨_, List.getElem?_eq_getElem hlt⟩
      have HXR := hide (HR.out x (List.mem_of_getElem? hx))
      have hdr : C.drop i = x :: C.drop (i + 1) := by
        rw [List.drop_eq_getElem_cons hlt]
        rw [List.getElem?_eq_getElem hlt] at hx
        cases hx
        rfl
      rw [hdr] at HD
      obtain ⟨g, o, ea, hc⟩ := HC.out i x hx
      cases ea
      clear hx hdr
      have h1 : decide ((i : Int) < (C.length : Int)) = true := by simp; omega
      have h1n : decide (i < C.length) = true := by simp; omega
      have h2 : decide ((i : Int) < 0) = false := by simp
      have h3 : (i : Int) < (C.length : Int) := by omega
      have h4 : IntKind.i64.wrap ((i : Int) + 1) = (i : Int) + 1 := by rw [IntKind.wrap_i64]; omega
      by_cases hx2 : x < 2
      · have hxb : decide (x < 2) = true := by simpa using hx2
        have HF := hide (show R = 1 by rw [← HD.out]; unfold chkP; rw [if_pos hx2])
        clear HD
        go_wp2
        go_ret
        exact ⟨ret_int HF.out.symm, rfl⟩
      · have hxb : decide (x < 2) = false := by simpa using hx2
        have HD2 := hide (show R = if validP x = true then chkP (C.drop (i + 1)) else 2 by rw [← HD.out]; conv => lhs; unfold chkP; rw [if_neg hx2])
        clear HD
        go_wp2_with fail
        refine (valid_any _ x HXR.out).mono ?_
        rintro e w' ⟨rfl, hw⟩
        rw [hw]
        clear hw w'
        cases hv : validP x
        · have HF := hide (show R = 2 by rw [HD2.out, if_neg (by rw [hv]; decide)])
          clear HD2 hv
          go_wp2
          go_ret
          exact ⟨ret_int HF.out.symm, rfl⟩
        · have HF := hide (show chkP (C.drop (i + 1)) = R by rw [HD2.out, if_pos hv])
          clear HD2 hv
          go_wp2
          go_roundw
          case rel => exact ⟨trivial, i + 1, by simp, by omega, HF⟩
          case measure => simp [intOf]; omega
    · have h1 : decide ((i : Int) < (C.length : Int)) = false := by simp; omega
      have h1n : decide (i < C.length) = false := by simp; omega
      have HF := hide (show R = 0 by rw [← HD.out, List.drop_eq_nil_of_le (by omega)]; rfl)
      go_wp2
      go_ret
      exact ⟨ret_int HF.out.symm, rfl⟩
/-- cnf.Clause.MaxVar, plain. -/
def mxS (t l : Int) : Int := if t < l / 2 then l / 2 else t
def mxP (C : List Int) : Int := C.foldl mxS 0
theorem mxS_le {t l m : Int} (h1 : t ≤ m) (h2 : l / 2 ≤ m) : mxS t l ≤ m := by unfold mxS; split <;> omega
theorem mx_le {m : Int} : ∀ {C : List Int} {t : Int}, t ≤ m → (∀ x ∈ C, x / 2 ≤ m) → C.foldl mxS t ≤ m
  | [], _, h, _ => h
  | l :: C, t, h, hc => mx_le (C := C) (t := mxS t l) (mxS_le h (hc l (by simp))) (fun x hx => hc x (by simp [hx]))
theorem mx_ge : ∀ {C : List Int} {t : Int}, t ≤ C.foldl mxS t ∧ ∀ x ∈ C, x / 2 ≤ C.foldl mxS t
  | [], t => ⟨Int.le_refl _, fun x h => by cases h⟩
  | l :: C, t => by
    have h := mx_ge (C := C) (t := mxS t l)
    have h1 : t ≤ mxS t l ∧ l / 2 ≤ mxS t l := by unfold mxS; split <;> omega
    refine ⟨Int.le_trans h1.1 h.1, fun x hx => ?_⟩
    rcases List.mem_cons.1 hx with e | e
    · subst e; exact Int.le_trans h1.2 h.1
    · exact h.2 x e
set_option linter.unusedSimpArgs false in
set_option maxRecDepth 100000 in
set_option maxHeartbeats 4000000 in
/-- cnf.Clause.MaxVar -/
theorem maxVar_any (w : World) (a : Option Addr) (c : Nat) (C : List Int) (h : CL w a C) (hr : ∀ x ∈ C, LitOk x) (hl : C.length ≤ 1000000000) :
    Calls Tryz.prog 130 #[.slice a C.length c] w fun e w' => e = .returned (.int .i32 (mxP C)) ∧ w' = w := by
  have HC := hide h
  have HR := hide hr
  obtain ⟨R, hR⟩ : ∃ R, mxP C = R := ⟨_, rfl⟩
  rw [hR]
  have HRE := hide hR
  clear h hr hR
  go_enter Tryz.func130, Tryz.ntmps130
  go_wp2
  go_loopw [3, 5, 8] (fun s3 _ s8 wx => wx = w ∧ ∃ (i : Nat) (t : Int), s3 = .int .i32 t ∧ s8 = .int .i64 i ∧ i ≤ C.length ∧ Hid ((C.drop i).foldl mxS t = R)) (fun _ _ s8 _ => C.length - (intOf s8).toNat)
  case atStart => exact ⟨rfl, 0, 0, rfl, rfl, Nat.zero_le _, HRE⟩
  case round =>
    obtain ⟨rfl, i, t, rfl, rfl, hi, HD⟩ := hrel
    by_cases hlt : i < C.length
    · obtain ⟨x, hx⟩ : ∃ x, C[i]? = some x := ⟨_, List.getElem?_eq_getElem hlt⟩
      have HXR := hide (HR.out x (List.mem_of_getElem? hx))
      have hdr : C.drop i = x :: C.drop (i + 1) := by
        rw [List.drop_eq_getElem_cons hlt]
        rw [List.getElem?_eq_getElem hlt] at hx
        cases hx
        rfl
      rw [hdr] at HD
      replace HD := hide (show (C.drop (i + 1)).foldl mxS (mxS t x) = R from HD.out)
      obtain ⟨g, o, ea, hc⟩ := HC.out i x hx
      cases ea
      clear hx hdr
      have hxv : 0 ≤ x ∧ x ≤ 2147483647 := by have := HXR.out; unfold LitOk at this; omega
      have h1 : decide ((i : Int) < (C.length : Int)) = true := by simp; omega
      have h1n : decide (i < C.length) = true := by simp; omega
      have h2 : decide ((i : Int) < 0) = false := by simp
      have h3 : (i : Int) < (C.length : Int) := by omega
      have h4 : IntKind.i64.wrap ((i : Int) + 1) = (i : Int) + 1 := by rw [IntKind.wrap_i64]; omega
      go_wp2_with fail
      refine (litVar_any _ x hxv).mono ?_
      rintro e w' ⟨rfl, hw⟩
      rw [hw]
      clear hw w'
      by_cases ht : t < x / 2
      · have htb : decide (t < x / 2) = true := by simpa using ht
        have htn : (t < x / 2) = True := by simpa using ht
        replace HD := hide (show (C.drop (i + 1)).foldl mxS (x / 2) = R from by rw [← HD.out]; unfold mxS; rw [if_pos ht])
        clear ht
        go_wp2_with fail
        refine (litVar_any _ x hxv).mono ?_
        rintro e w' ⟨rfl, hw⟩
        rw [hw]
        clear hw w'
        go_wp2
        go_roundw
        case rel => exact ⟨trivial, i + 1, x / 2, rfl, by simp, by omega, HD⟩
        case measure => simp [intOf]; omega
      · have htb : decide (t < x / 2) = false := by simpa using ht
        have htn : (t < x / 2) = False := by simpa using ht
        have htl : x / 2 ≤ t := by omega
        replace HD := hide (show (C.drop (i + 1)).foldl mxS t = R from by rw [← HD.out]; conv => rhs; rw [show mxS t x = t from by unfold mxS; rw [if_neg ht]])
        clear ht
        go_wp2
        go_roundw
        case rel => exact ⟨trivial, i + 1, t, rfl, by simp, by omega, HD⟩
        case measure => simp [intOf]; omega
    · have h1 : decide ((i : Int) < (C.length : Int)) = false := by simp; omega
      have h1n : decide (i < C.length) = false := by simp; omega
      have HF := hide (show R = t by rw [← HD.out, List.drop_eq_nil_of_le (by omega)]; rfl)
      go_wp2
      go_ret
      exact ⟨ret_int HF.out.symm, rfl⟩
end Go.Proofs.Qxb6500773aGreat
