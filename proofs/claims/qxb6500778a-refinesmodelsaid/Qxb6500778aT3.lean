import Derived.Test.Qxb6500778aT2
import Derived.Test.Qxb6500778aQ4
namespace Go.Proofs.Qxb6500778a
open Go.RowKit

/-- all numbers of a change are small and not negative -/
structure Rng (c : Chg) : Prop where
  d : 0 ≤ c.dv ∧ c.dv ≤ 1000
  h : 0 ≤ c.hp ∧ c.hp ≤ 1000
  p : 0 ≤ c.pr ∧ c.pr ≤ 1000
  l : 0 ≤ c.ln ∧ c.ln ≤ 1000
  i : 0 ≤ c.ix ∧ c.ix ≤ 1000
  c : 0 ≤ c.cl ∧ c.cl ≤ 1000
theorem GoodC.rng {c : Chg} (h : GoodC c) : Rng c ∧ 0 ≤ c.kd ∧ c.kd < 6 := by
  obtain ⟨kd, dv, hp, pr, ln, ix, cl, pm, up⟩ := c
  obtain ⟨hd, hk⟩ := h
  simp only [GoodP] at hd hk
  rcases hk with ⟨k, h1, h2, h3, h4, _, _⟩ | ⟨k, h1, h2, h3, h4, _, _⟩ | ⟨k, h1, h2, h3, h4, _⟩ | ⟨k, h1, h2, h3, h4, h5, _, _⟩ | ⟨k, h1, h2, h3, h4, h5, _⟩ | ⟨k, h1, h2, h3, h4, h5, _⟩
  all_goals (refine ⟨⟨?_, ?_, ?_, ?_, ?_, ?_⟩, ?_, ?_⟩ <;> (simp only []; omega))
/-- configm.fill -/
theorem fill_any (w : World) (c : Chg) (hc : Rng c) (f : List Int) (hf : FOk f) : Calls Try.prog 48 #[.string (strOfNums f), chV c] w fun e w' => e = .returned (.string (strOfNums (fillT f c))) ∧ Ex (fun _ => False) w w' := by
  obtain ⟨kd, dv, hp, pr, ln, ix, cl, pm, up⟩ := c
  obtain ⟨h1, h2, h3, h4, h5, h6⟩ := hc
  simp only [] at h1 h2 h3 h4 h5 h6
  obtain ⟨dv, rfl⟩ : ∃ a : Nat, dv = a := ⟨dv.toNat, by omega⟩
  obtain ⟨hp, rfl⟩ : ∃ a : Nat, hp = a := ⟨hp.toNat, by omega⟩
  obtain ⟨pr, rfl⟩ : ∃ a : Nat, pr = a := ⟨pr.toNat, by omega⟩
  obtain ⟨ln, rfl⟩ : ∃ a : Nat, ln = a := ⟨ln.toNat, by omega⟩
  obtain ⟨ix, rfl⟩ : ∃ a : Nat, ix = a := ⟨ix.toNat, by omega⟩
  obtain ⟨cl, rfl⟩ : ∃ a : Nat, cl = a := ⟨cl.toNat, by omega⟩
  have b1 : dv ≤ 1000000 := by omega
  have b2 : hp ≤ 1000000 := by omega
  have b3 : pr ≤ 1000000 := by omega
  have b4 : ln ≤ 1000000 := by omega
  have b5 : ix ≤ 1000000 := by omega
  have b6 : cl ≤ 1000000 := by omega
  rcases hf with rfl | rfl | rfl | rfl | rfl | rfl | rfl | rfl | ⟨hn, hby, _⟩
  · have e : fillT [68] ⟨kd, dv, hp, pr, ln, ix, cl, pm, up⟩ = 114 :: decL dv := rfl
    rw [e, str_cons]
    exact fill_D w kd dv hp pr ln ix cl pm up b1 b2 b3 b4 b5 b6
  · have e : fillT [72] ⟨kd, dv, hp, pr, ln, ix, cl, pm, up⟩ = 114 :: decL hp := rfl
    rw [e, str_cons]
    exact fill_H w kd dv hp pr ln ix cl pm up b1 b2 b3 b4 b5 b6
  · have e : fillT [76] ⟨kd, dv, hp, pr, ln, ix, cl, pm, up⟩ = 114 :: decL hp := rfl
    rw [e, str_cons]
    exact fill_L w kd dv hp pr ln ix cl pm up b1 b2 b3 b4 b5 b6
  · exact fill_I w kd dv hp pr ln ix cl pm up b1 b2 b3 b4 b5 b6
  · have e : strOfNums (fillT [65] ⟨kd, dv, hp, pr, ln, ix, cl, pm, up⟩) = if pm = true then s_permit else s_deny := by
      show strOfNums (if pm = true then strL s_permit else strL s_deny) = _
      cases pm
      · exact str_of s_deny
      · exact str_of s_permit
    rw [e]
    exact fill_A w kd dv hp pr ln ix cl pm up b1 b2 b3 b4 b5 b6
  · have e : strOfNums (fillT [85] ⟨kd, dv, hp, pr, ln, ix, cl, pm, up⟩) = if up = true then s_up else s_down := by
      show strOfNums (if up = true then strL s_up else strL s_down) = _
      cases up
      · exact str_of s_down
      · exact str_of s_up
    rw [e]
    exact fill_U w kd dv hp pr ln ix cl pm up b1 b2 b3 b4 b5 b6
  · have e : fillT [67] ⟨kd, dv, hp, pr, ln, ix, cl, pm, up⟩ = if (cl : Int) = 16 then strL s_any else decL cl := rfl
    rw [e]
    by_cases k : (cl : Int) = 16
    · rw [if_pos k, str_of]
      unfold chV
      simp only []
      rw [k]
      exact fill_Cany w kd dv hp pr ln ix pm up b1 b2 b3 b4 b5
    · rw [if_neg k]
      exact fill_C w kd dv hp pr ln ix cl pm up (by omega) b1 b2 b3 b4 b5 b6
  · have e : fillT [80] ⟨kd, dv, hp, pr, ln, ix, cl, pm, up⟩ = decL pr ++ (47 :: decL ln) := rfl
    have e2 : strOfNums (decL pr ++ (47 :: decL ln)) = (strOfNums (decL pr) ++ ⟨#[47]⟩) ++ strOfNums (decL ln) := by
      rw [str_app, str_cons 47 (decL ln), ← ByteArray.append_assoc]
      rfl
    rw [e, e2]
    exact fill_P w kd dv hp pr ln ix cl pm up b1 b2 b3 b4 b5 b6
  · have ne : ∀ a : Int, [a] ∈ [[68], [72], [76], [73], [65], [85], [67], [80]] → f ≠ [a] := fun a ha e => hn (by rw [e]; exact ha)
    have e : fillT f ⟨kd, dv, hp, pr, ln, ix, cl, pm, up⟩ = f := by
      unfold fillT
      rw [if_neg (ne 68 (by decide)), if_neg (ne 72 (by decide)), if_neg (ne 76 (by decide)), if_neg (ne 80 (by decide)), if_neg (ne 73 (by decide)), if_neg (ne 65 (by decide)), if_neg (ne 67 (by decide)), if_neg (ne 85 (by decide))]
    rw [e]
    have nb : ∀ d : UInt8, f ≠ [(d.toNat : Int)] → ((strOfNums f).toList == [d]) = false := fun d hd => by
      rw [str_eq, strL_of hby]
      exact beq_eq_false_iff_ne.2 hd
    exact fill_W w kd dv hp pr ln ix cl pm up (strOfNums f) ⟨nb 68 (ne 68 (by decide)), nb 72 (ne 72 (by decide)), nb 76 (ne 76 (by decide)), nb 73 (ne 73 (by decide)), nb 65 (ne 65 (by decide)), nb 85 (ne 85 (by decide)), nb 67 (ne 67 (by decide)), nb 80 (ne 80 (by decide))⟩ b1 b2 b3 b4 b5 b6
/-- a change's line, by its shape -/
def lnM (c : Chg) : List Int := 32 :: ((shF c.kd).flatMap (fun f => 32 :: fillT f c) ++ [10])
theorem fill_kw {y : ByteArray} (hn : strL y ∉ [[68], [72], [76], [73], [65], [85], [67], [80]]) (c : Chg) : fillT (strL y) c = strL y := by
  have ne : ∀ a : Int, [a] ∈ [[68], [72], [76], [73], [65], [85], [67], [80]] → strL y ≠ [a] := fun a ha e => hn (by rw [e]; exact ha)
  unfold fillT
  rw [if_neg (ne 68 (by decide)), if_neg (ne 72 (by decide)), if_neg (ne 76 (by decide)), if_neg (ne 80 (by decide)), if_neg (ne 73 (by decide)), if_neg (ne 65 (by decide)), if_neg (ne 67 (by decide)), if_neg (ne 85 (by decide))]
set_option linter.unusedSimpArgs false in
theorem line_eq {c : Chg} (h : GoodC c) : chgT c = lnM c := by
  have hk := (GoodC.rng h).2
  obtain ⟨kd, dv, hp, pr, ln, ix, cl, pm, up⟩ := c
  simp only [] at hk
  have n_via : strL s_via ∉ [[68], [72], [76], [73], [65], [85], [67], [80]] := by decide +kernel
  have n_at : strL s_at ∉ [[68], [72], [76], [73], [65], [85], [67], [80]] := by decide +kernel
  have n_class : strL s_class ∉ [[68], [72], [76], [73], [65], [85], [67], [80]] := by decide +kernel
  unfold lnM
  simp only []
  rcases (by omega : kd = 0 ∨ kd = 1 ∨ kd = 2 ∨ kd = 3 ∨ kd = 4 ∨ kd = 5) with e | e | e | e | e | e <;> subst e
  · rw [sh0]
    simp only [List.flatMap_cons, List.flatMap_nil, fill_kw n_route, fill_kw n_add, fill_kw n_via]
    simp [chgT, fillT, devT, prefT]
    rfl
  · rw [sh1]
    simp only [List.flatMap_cons, List.flatMap_nil, fill_kw n_route, fill_kw n_del]
    simp [chgT, fillT, devT, prefT]
    rfl
  · rw [sh2]
    simp only [List.flatMap_cons, List.flatMap_nil, fill_kw n_acl, fill_kw n_insert, fill_kw n_at, fill_kw n_class]
    by_cases k : cl = 16
    · cases pm <;> (simp [chgT, fillT, devT, prefT, k]; rfl)
    · cases pm <;> (simp [chgT, fillT, devT, prefT, k]; rfl)
  · rw [sh3]
    simp only [List.flatMap_cons, List.flatMap_nil, fill_kw n_acl, fill_kw n_remove, fill_kw n_at]
    simp [chgT, fillT, devT, prefT]
    rfl
  · rw [sh4]
    simp only [List.flatMap_cons, List.flatMap_nil, fill_kw n_link]
    cases up <;> (simp [chgT, fillT, devT, prefT]; rfl)
  · rw [sh5]
    simp only [List.flatMap_cons, List.flatMap_nil, fill_kw n_iface]
    cases up <;> (simp [chgT, fillT, devT, prefT]; rfl)
end Go.Proofs.Qxb6500778a
