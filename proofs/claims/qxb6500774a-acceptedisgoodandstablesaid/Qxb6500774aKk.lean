import Derived.Test.Qxb6500774aKk1
import Derived.Test.Qxb6500774aKk2
import Derived.Test.Qxb6500774aKk3
import Derived.Test.Qxb6500774aKk4
import Derived.Test.Qxb6500774aKk5
import Derived.Test.Qxb6500774aKk6
namespace Go.Proofs.Qxb6500774a
open Go.RowKit
set_option linter.unusedVariables false
set_option linter.unusedSimpArgs false

section
variable {B p : Nat} {a : Option Addr} {cp : Nat} {s : List Int}
theorem at_ne {st : PSt} {u v : ByteArray} (h : atS s u st = true) (hv : u.toList ≠ v.toList) : atS s v st = false := by
  cases st with
  | «at» k d =>
    have h : isK (tks s k).1 u = true := h
    show isK (tks s k).1 v = false
    unfold isK at h ⊢
    simp only [Bool.and_eq_true, beq_iff_eq] at h
    rw [h.2]
    have : (u.toList == v.toList) = false := by simpa using hv
    rw [this, Bool.and_false]
  | bad e l c => rfl
theorem at_k5 {st : PSt} {u : ByteArray} (h : atS s u st = true) : (tokS s st).k = 5 := by
  cases st with
  | «at» k d =>
    have h : isK (tks s k).1 u = true := h
    unfold isK at h
    simp only [Bool.and_eq_true, beq_iff_eq] at h
    exact h.1
  | bad e l c => cases h
theorem at_k {st : PSt} (h : (tokS s st).k ≠ 5) (u : ByteArray) : atS s u st = false := by
  cases hh : atS s u st
  · rfl
  · exact absurd (at_k5 hh) h
/-- parser.operand -/
theorem operandK (N : Nat) (hE : EX1 B p a cp s N) (hO : OP B p a cp s N) (st : PSt) (RR : E × PSt) (w : World) (hpj : pj s N .oper st = some RR) (hin : InS B p a cp s w st) (hok : DOk st) :
    Calls Try.prog 77 #[.pointer (some ⟨p, 0, none⟩)] w (XPost B p a cp s w RR) := by
  obtain ⟨d, hd0, hda⟩ := hok.da
  by_cases h2 : (tokS s st).k = 2
  · exact op_name N st RR w hpj hin d hd0 hda (fun m hm R w' h1 h3 => placeK m (fun m' hm' => hE m' (Nat.lt_trans hm' hm)) st R w' h1 h3 hok) h2
  by_cases h3 : (tokS s st).k = 3
  · have h5 : (tokS s st).k ≠ 5 := by rw [h3]; decide
    exact op_num N st RR w hpj hin d hd0 hda h3 (at_k h5 _) (at_k h5 _) (at_k h5 _) (at_k h5 _) (at_k h5 _)
  by_cases h4 : (tokS s st).k = 4
  · have h5 : (tokS s st).k ≠ 5 := by rw [h4]; decide
    exact op_tim N st RR w hpj hin d hd0 hda h4 (at_k h5 _) (at_k h5 _) (at_k h5 _) (at_k h5 _) (at_k h5 _)
  obtain ⟨bo, st6, hos⟩ : ∃ b x, openS s st = (b, x) := ⟨_, _, rfl⟩
  cases hN : atS s ⟨#[78, 79, 84]⟩ st
  rotate_left
  · cases bo
    · exact op_notd N st RR w hpj hin d hd0 hda st6 (at_k5 hN) hN (at_ne hN (by simp)) (at_ne hN (by simp)) (at_ne hN (by simp)) (at_ne hN (by simp)) hos
    · exact op_not N st RR w hpj hin d hd0 hda hO st6 (at_k5 hN) hN (at_ne hN (by simp)) (at_ne hN (by simp)) (at_ne hN (by simp)) (at_ne hN (by simp)) hos
  cases hM : atS s ⟨#[45]⟩ st
  rotate_left
  · cases bo
    · exact op_mind N st RR w hpj hin d hd0 hda st6 (at_k5 hM) hN hM (at_ne hM (by simp)) (at_ne hM (by simp)) (at_ne hM (by simp)) hos
    · exact op_min N st RR w hpj hin d hd0 hda hO st6 (at_k5 hM) hN hM (at_ne hM (by simp)) (at_ne hM (by simp)) (at_ne hM (by simp)) hos
  cases hP : atS s ⟨#[40]⟩ st
  rotate_left
  · cases bo
    · exact op_pard N st RR w hpj hin d hd0 hda st6 (at_k5 hP) hN hM hP (at_ne hP (by simp)) (at_ne hP (by simp)) hos
    · exact op_par N st RR w hpj hin d hd0 hda hE st6 (at_k5 hP) hN hM hP (at_ne hP (by simp)) (at_ne hP (by simp)) hos
  cases hT : atS s ⟨#[84, 82, 85, 69]⟩ st
  rotate_left
  · exact op_tru N st RR w hpj hin d hd0 hda (at_k5 hT) hN hM hP hT (at_ne hT (by simp))
  cases hF : atS s ⟨#[70, 65, 76, 83, 69]⟩ st
  rotate_left
  · exact op_fal N st RR w hpj hin d hd0 hda (at_k5 hF) hN hM hP hT hF
  exact op_none N st RR w hpj hin d hd0 hda h2 h3 h4 hN hM hP hT hF
end
end Go.Proofs.Qxb6500774a
