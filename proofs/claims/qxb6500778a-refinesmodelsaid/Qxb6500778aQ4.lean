import Derived.Test.Qxb6500778aQ3
namespace Go.Proofs.Qxb6500778a
open Go.RowKit

def ofR (R : Chg × Nat × Nat × Int × Int) : Int × Chg × Nat × Int × Int := ((R.2.2.1 : Int), R.1, R.2.1, R.2.2.2.1, R.2.2.2.2)
/-- the shape that got furthest -/
def bstep (L : List Wd) (i : Nat) (a : Int × Chg × Nat × Int × Int) (k : Int) : Int × Chg × Nat × Int × Int := if a.1 < ((mtK L k i).2.2.1 : Int) then ofR (mtK L k i) else a
def bst0 : Int × Chg × Nat × Int × Int := (-1, Chg.zero, 0, 0, 0)
def bestN (L : List Wd) (i : Nat) : Nat → Int × Chg × Nat × Int × Int
  | 0 => bst0
  | n + 1 => bstep L i (bestN L i n) (n : Int)
theorem bs_take {L : List Wd} {i : Nat} {a : Int × Chg × Nat × Int × Int} {k : Int} (h : a.1 < ((mtK L k i).2.2.1 : Int)) : bstep L i a k = ofR (mtK L k i) := by unfold bstep; rw [if_pos h]
theorem bs_skip {L : List Wd} {i : Nat} {a : Int × Chg × Nat × Int × Int} {k : Int} (h : ¬ a.1 < ((mtK L k i).2.2.1 : Int)) : bstep L i a k = a := by unfold bstep; rw [if_neg h]
theorem slP_kw {f : List Int} (hn : f ∉ [[68], [72], [76], [73], [65], [85], [67], [80]]) (L : List Wd) (j : Nat) (c : Chg) : slP f L j c = (c, 1, if ((wdAt L j).t == f) = true then 0 else wrE (wdAt L j).t, if ((wdAt L j).t == f) = true then 0 else (wdAt L j).q) := by
  have ne : ∀ a : Int, [a] ∈ [[68], [72], [76], [73], [65], [85], [67], [80]] → f ≠ [a] := fun a ha e => hn (by rw [e]; exact ha)
  unfold slP
  delta slQ
  dsimp only
  rw [if_neg (ne 68 (by decide)), if_neg (ne 72 (by decide)), if_neg (ne 76 (by decide)), if_neg (ne 73 (by decide)), if_neg (ne 65 (by decide)), if_neg (ne 85 (by decide)), if_neg (ne 67 (by decide)), if_neg (ne 80 (by decide))]
theorem mt_ok {f : List Int} (hn : f ∉ [[68], [72], [76], [73], [65], [85], [67], [80]]) {L : List Wd} {j : Nat} (h : (wdAt L j).t = f) (fs : List (List Int)) (c : Chg) (r tk : Nat) : mtP L (f :: fs) j c r tk = mtP L fs (j + 1) c (r + 1) (tk + 1) := by
  have e2 : ((wdAt L j).t == f) = true := by rw [h]; exact beq_self_eq_true _
  rw [mtP_cons, slP_kw hn, e2]
  rfl
theorem mt_no {f : List Int} (hn : f ∉ [[68], [72], [76], [73], [65], [85], [67], [80]]) {L : List Wd} {j : Nat} (h : (wdAt L j).t ≠ f) (fs : List (List Int)) (c : Chg) (r tk : Nat) : mtP L (f :: fs) j c r tk = (c, tk, r, wrE (wdAt L j).t, (wdAt L j).q) := by
  rw [mtP_cons, slP_kw hn, beq_eq_false_iff_ne.2 h]
  show (if wrE (wdAt L j).t = 0 then _ else _) = _
  rw [if_neg (wrE_ne _)]
  rfl
theorem sh0 : shF 0 = [strL s_route, strL s_add, [68], [80], strL s_via, [72]] := by decide +kernel
theorem sh1 : shF 1 = [strL s_route, strL s_del, [68], [80]] := by decide +kernel
theorem sh2 : shF 2 = [strL s_acl, strL s_insert, [68], strL s_at, [73], [65], [80], strL s_class, [67]] := by decide +kernel
theorem sh3 : shF 3 = [strL s_acl, strL s_remove, [68], strL s_at, [73]] := by decide +kernel
theorem sh4 : shF 4 = [strL s_link, [68], [76], [85]] := by decide +kernel
theorem sh5 : shF 5 = [strL s_iface, [68], [85]] := by decide +kernel
theorem n_route : strL s_route ∉ [[68], [72], [76], [73], [65], [85], [67], [80]] := by decide +kernel
theorem n_acl : strL s_acl ∉ [[68], [72], [76], [73], [65], [85], [67], [80]] := by decide +kernel
theorem n_link : strL s_link ∉ [[68], [72], [76], [73], [65], [85], [67], [80]] := by decide +kernel
theorem n_iface : strL s_iface ∉ [[68], [72], [76], [73], [65], [85], [67], [80]] := by decide +kernel
theorem n_add : strL s_add ∉ [[68], [72], [76], [73], [65], [85], [67], [80]] := by decide +kernel
theorem n_del : strL s_del ∉ [[68], [72], [76], [73], [65], [85], [67], [80]] := by decide +kernel
theorem n_insert : strL s_insert ∉ [[68], [72], [76], [73], [65], [85], [67], [80]] := by decide +kernel
theorem n_remove : strL s_remove ∉ [[68], [72], [76], [73], [65], [85], [67], [80]] := by decide +kernel
theorem fok_kw {y : ByteArray} (hn : strL y ∉ [[68], [72], [76], [73], [65], [85], [67], [80]]) (hk : kwOk y = true) : FOk (strL y) := by
  unfold FOk
  refine .inr (.inr (.inr (.inr (.inr (.inr (.inr (.inr ⟨hn, byt_str y, ?_⟩)))))))
  rw [str_of]
  exact hk
theorem fok_via : FOk (strL s_via) := fok_kw (by decide +kernel) kw_via
theorem fok_at : FOk (strL s_at) := fok_kw (by decide +kernel) kw_at
theorem fok_class : FOk (strL s_class) := fok_kw (by decide +kernel) kw_class
theorem fR_kw {y : ByteArray} (hn : strL y ∉ [[68], [72], [76], [73], [65], [85], [67], [80]]) (s : List Int) (d : Int) (x : PSt) : fR s (strL y) d x = wordP s y x := by
  have ne : ∀ a : Int, [a] ∈ [[68], [72], [76], [73], [65], [85], [67], [80]] → strL y ≠ [a] := fun a ha e => hn (by rw [e]; exact ha)
  unfold fR
  rw [if_neg (ne 68 (by decide)), if_neg (ne 72 (by decide)), if_neg (ne 76 (by decide)), if_neg (ne 73 (by decide)), if_neg (ne 65 (by decide)), if_neg (ne 85 (by decide)), if_neg (ne 67 (by decide)), if_neg (ne 80 (by decide)), str_of]
theorem fC_kw {y : ByteArray} (hn : strL y ∉ [[68], [72], [76], [73], [65], [85], [67], [80]]) (s : List Int) (x : PSt) (c : Chg) : fC s (strL y) x c = c := by
  have ne : ∀ a : Int, [a] ∈ [[68], [72], [76], [73], [65], [85], [67], [80]] → strL y ≠ [a] := fun a ha e => hn (by rw [e]; exact ha)
  unfold fC
  rw [if_neg (ne 68 (by decide)), if_neg (ne 72 (by decide)), if_neg (ne 76 (by decide)), if_neg (ne 73 (by decide)), if_neg (ne 65 (by decide)), if_neg (ne 85 (by decide)), if_neg (ne 67 (by decide)), if_neg (ne 80 (by decide))]
def CEq (s : List Int) (L : List Wd) (x : PSt) (i : Nat) : Prop :=
  ((bestN L i 6).2.2.2.1 = 0 → At s L (changeX s x).1 (i + (bestN L i 6).2.2.1) ∧ (changeX s x).2 = (bestN L i 6).2.1 ∧ 1 ≤ (bestN L i 6).2.2.1) ∧ ((bestN L i 6).2.2.2.1 ≠ 0 → Bad (changeX s x).1 (bestN L i 6).2.2.2.1 (bestN L i 6).2.2.2.2)
/-- from the shape that got furthest to the change read -/
theorem ceq_of {s : List Int} {L : List Wd} (hb : Byt s) {x x' : PSt} {i j r tk : Nat} {fs : List (List Int)} {c : Chg} (hfs : ∀ f ∈ fs, FOk f) (h : At s L x' j) (hb6 : bestN L i 6 = ofR (mtP L fs j c r tk)) (hj : j = i + tk) (htk : 1 ≤ tk) (hx : changeX s x = runR s fs x' c) : CEq s L x i := by
  obtain ⟨i1, i2, _⟩ := run_eq hb fs x' j c r tk hfs h
  unfold CEq
  rw [hb6, hx]
  refine ⟨fun e => ?_, i2⟩
  obtain ⟨⟨d, d1, d2⟩, d3, _⟩ := i1 e
  have d1' : (ofR (mtP L fs j c r tk)).2.2.1 = tk + d := d1
  rw [d1']
  exact ⟨by rw [← Nat.add_assoc, ← hj]; exact d2, d3, by omega⟩
theorem ceq_bad {s : List Int} {L : List Wd} {x : PSt} {i : Nat} {b : Int} {c : Chg} {tk : Nat} {e a : Int} (he : e ≠ 0) (hb6 : bestN L i 6 = (b, c, tk, e, a)) (hx : Bad (changeX s x).1 e a) : CEq s L x i := by
  unfold CEq
  rw [hb6]
  exact ⟨fun h => absurd h he, fun _ => hx⟩
end Go.Proofs.Qxb6500778a
